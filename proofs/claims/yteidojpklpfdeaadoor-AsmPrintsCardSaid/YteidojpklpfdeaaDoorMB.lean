/- The walk of inst.rest: what a form has besides its registers. The walks of inst.imm, inst.fields, inst.fixed. The walk of inst.Right. The walks of inst.fixed and inst.Encode. The walk of inst.Decode. The walks of inst: Name, Find, Loads, Stores, Branches, Atomics, Systems, Width. The walk of inst.Find. inst.Encode and inst.Right, of any instruction. -/
import Derived.Test.YteidojpklpfdeaaDoorMA
import Derived.Deep.RegionHeld3
/- The walk of inst.rest: what a form has besides its registers. -/
namespace Go.Proofs.YteidojpklpfdeaaDoor
open Go.RowKit
attribute [local go_sem] setCell_drewN alloc_drewN
set_option linter.unusedVariables false
set_option linter.unusedSimpArgs false

set_option maxHeartbeats 1000000 in
theorem rest_any (r : Row) (x : Ins) (w : World) (hf : r.form = 1 ∨ r.form = 2 ∨ r.form = 3 ∨ r.form = 4 ∨ r.form = 5 ∨ r.form = 6 ∨ r.form = 7 ∨ r.form = 8 ∨ r.form = 9 ∨ r.form = 10 ∨ r.form = 11 ∨ r.form = 12 ∨ r.form = 13 ∨ r.form = 14 ∨ r.form = 15 ∨ r.form = 16) :
    Calls Tryd.prog 52 #[.agg #[.string r.name, .int .i64 r.form, .int .u32 r.code, .int .u32 r.f3, .int .u32 r.f7], .agg #[.int .i64 x.op, .int .i64 x.rd, .int .i64 x.rs1, .int .i64 x.rs2, .int .i64 x.imm, .int .i64 x.csr, .bool x.aq, .bool x.rl]] w fun e w' => e = .returned (.int .u32 (restOf r.form r.f7 x.imm x.csr x.aq x.rl)) ∧ Below w.heap.size w w' := by
  obtain ⟨nm, form, code, f3, f7⟩ := r
  obtain ⟨op, rd, rs1, rs2, imm, csr, aq, rl⟩ := x
  dsimp only at hf ⊢
  rcases hf with rfl | rfl | rfl | rfl | rfl | rfl | rfl | rfl | rfl | rfl | rfl | rfl | rfl | rfl | rfl | rfl
  all_goals
    go_enter Tryd.func52, Tryd.ntmps52
    go_wp2_with (go_at_call 92; refine (at_any _ _ _ _ _ (by decide) (by decide)).mono ?_; rintro e w' ⟨rfl, k, rfl⟩)
    try (go_quiet ((go_at_call 92; exact Calls.quiet_of (at_any _ _ _ _ _ (by decide) (by decide)))); go_wp2)
  all_goals
    go_ret
    exact ⟨ret_int (by first | rfl | (simp [restOf, or32, *]; done)), by repeat (first | exact Below.refl _ _ | apply bel_drewN | refine Below.alloc ?_ (by simp) _)⟩

end Go.Proofs.YteidojpklpfdeaaDoor

/- The walks of inst.imm, inst.fields, inst.fixed. -/
namespace Go.Proofs.YteidojpklpfdeaaDoor
open Go.RowKit
attribute [local go_sem] setCell_drewN alloc_drewN
set_option linter.unusedVariables false
set_option linter.unusedSimpArgs false

def or64 (a b : Int) : Int := bits .or .u64 a b

/-- A word's number, by its form. -/
def immOf (f w : Int) : Int :=
  if f == 1 then wrap64 (sext (get w 12 20 * 4096 % 18446744073709551616) 32)
  else if f == 2 then wrap64 (sext (or64 (or64 (or64 (get w 31 1 * 1048576 % 18446744073709551616) (get w 21 10 * 2 % 18446744073709551616)) (get w 20 1 * 2048 % 18446744073709551616)) (get w 12 8 * 4096 % 18446744073709551616)) 21)
  else if f == 4 then wrap64 (sext (or64 (or64 (or64 (get w 31 1 * 4096 % 18446744073709551616) (get w 25 6 * 32 % 18446744073709551616)) (get w 8 4 * 2 % 18446744073709551616)) (get w 7 1 * 2048 % 18446744073709551616)) 13)
  else if f == 6 then wrap64 (sext (or64 (get w 25 7 * 32 % 18446744073709551616) (get w 7 5)) 12)
  else if f == 7 then wrap64 (get w 20 6)
  else if f == 8 then wrap64 (get w 20 5)
  else if f == 10 then wrap64 (get w 20 12)
  else if f == 13 then wrap64 (get w 15 5)
  else wrap64 (sext (get w 20 12) 12)

theorem or64_range (a b : Int) : 0 ≤ or64 a b ∧ or64 a b < 18446744073709551616 := by
  unfold or64 bits
  simp only [IntKind.wrap_u64]
  omega

theorem w64_lo (a : Int) : 0 ≤ IntKind.u64.wrap a := by rw [IntKind.wrap_u64]; omega
theorem w64_hi (a : Int) : IntKind.u64.wrap a < 18446744073709551616 := by rw [IntKind.wrap_u64]; omega
theorem b64_lo (o : BinOp) (a b : Int) : 0 ≤ bits o .u64 a b := by unfold bits; split <;> first | exact w64_lo _ | omega
theorem b64_hi (o : BinOp) (a b : Int) : bits o .u64 a b < 18446744073709551616 := by unfold bits; split <;> first | exact w64_hi _ | omega

set_option maxHeartbeats 1000000 in
theorem imm_any (f x : Int) (w : World) (h0 : 0 ≤ x) (h1 : x < 18446744073709551616) (hf : f = 1 ∨ f = 2 ∨ f = 3 ∨ f = 4 ∨ f = 5 ∨ f = 6 ∨ f = 7 ∨ f = 8 ∨ f = 10 ∨ f = 13) :
    Calls Tryd.prog 73 #[.int .i64 f, .int .u64 x] w fun e w' => e = .returned (.int .i64 (immOf f x)) ∧ ∃ k, w' = w.drewN k := by
  have H := hid h1; clear h1
  rcases hf with rfl | rfl | rfl | rfl | rfl | rfl | rfl | rfl | rfl | rfl
  all_goals
    go_enter Tryd.func73, Tryd.ntmps73
    go_wp2_with (first | (go_at_call 71; refine (get_any _ _ _ _ (by assumption) H.out).mono ?_; rintro e w' ⟨rfl, k, rfl⟩) | (go_at_call 101; refine (sext_any _ _ _ (by with_reducible first | exact get_nonneg _ _ _ | exact w64_lo _ | exact b64_lo _ _ _) (by with_reducible first | exact get_lt _ _ _ h0 H.out | exact w64_hi _ | exact b64_hi _ _ _) (by decide) (by decide)).mono ?_; rintro e w' ⟨rfl, k, rfl⟩))
    go_ret
    exact ⟨ret_int (by simp [immOf, or64, IntKind.wrap_u64]; try rfl), _, rfl⟩

/-- The parts of an operation's word. -/
def fieldsOf (op f w : Int) : Ins :=
  ⟨op, if (partsOf f).rd then wrap64 (get w 7 5) else 0, if (partsOf f).rs1 then wrap64 (get w 15 5) else 0, if (partsOf f).rs2 then wrap64 (get w 20 5) else 0,
    if (partsOf f).imm then immOf f w else 0, if (partsOf f).csr then wrap64 (get w 20 12) else 0, if (partsOf f).order then get w 26 1 == 1 else false, if (partsOf f).order then get w 25 1 == 1 else false⟩

abbrev IsForm (f : Int) : Prop := f = 1 ∨ f = 2 ∨ f = 3 ∨ f = 4 ∨ f = 5 ∨ f = 6 ∨ f = 7 ∨ f = 8 ∨ f = 9 ∨ f = 10 ∨ f = 11 ∨ f = 12 ∨ f = 13 ∨ f = 14 ∨ f = 15 ∨ f = 16

set_option maxHeartbeats 4000000 in
theorem fields_any (op f x : Int) (w : World) (h0 : 0 ≤ x) (h1 : x < 18446744073709551616) (hf : IsForm f) :
    Calls Tryd.prog 31 #[.int .i64 op, .int .i64 f, .int .u64 x] w fun e w' => e = .returned (fieldsOf op f x).v ∧ Below w.heap.size w w' := by
  have H := hid h1; clear h1
  rcases hf with rfl | rfl | rfl | rfl | rfl | rfl | rfl | rfl | rfl | rfl | rfl | rfl | rfl | rfl | rfl | rfl
  all_goals
    go_enter Tryd.func31, Tryd.ntmps31
    go_wp2_with (first | (go_at_call 44; refine (of_any _ _).mono ?_; rintro e w' ⟨rfl, rfl⟩; simp only [partsOf, Parts.v, Parts.cells, Int.reduceBEq, Bool.false_eq_true, ↓reduceIte]) | (go_at_call 71; refine (get_any _ _ _ _ (by assumption) H.out).mono ?_; rintro e w' ⟨rfl, k, rfl⟩) | (go_at_call 72; refine (bit_any _ _ _ (by assumption) H.out).mono ?_; rintro e w' ⟨rfl, k, rfl⟩) | (go_at_call 73; refine (imm_any _ _ _ h0 H.out (by decide)).mono ?_; rintro e w' ⟨rfl, k, rfl⟩))
    refine bodyPost_ret (v := (fieldsOf _ _ _).v) (by simp [results, Tryd.results31, go_sem, fieldsOf, Ins.v, partsOf]) rfl ⟨rfl, ?_⟩
    repeat (first | exact Below.refl _ _ | apply bel_drewN | refine Below.alloc ?_ (by simp; try omega) _ | refine Below.setCell ?_ (by simp) _)

theorem run_row0 (a b c d e : Value) (w : World) : (Instr.field 60 (.agg #[a, b, c, d, e]) 0).run Tryd.prog w = .ok a w := by kernel_rfl
theorem run_row1 (a b c d e : Value) (w : World) : (Instr.field 60 (.agg #[a, b, c, d, e]) 1).run Tryd.prog w = .ok b w := by kernel_rfl
theorem run_row2 (a b c d e : Value) (w : World) : (Instr.field 60 (.agg #[a, b, c, d, e]) 2).run Tryd.prog w = .ok c w := by kernel_rfl
theorem run_row3 (a b c d e : Value) (w : World) : (Instr.field 60 (.agg #[a, b, c, d, e]) 3).run Tryd.prog w = .ok d w := by kernel_rfl
theorem run_row4 (a b c d e : Value) (w : World) : (Instr.field 60 (.agg #[a, b, c, d, e]) 4).run Tryd.prog w = .ok e w := by kernel_rfl

end Go.Proofs.YteidojpklpfdeaaDoor

/- The walk of inst.Right. -/
namespace Go.Proofs.YteidojpklpfdeaaDoor
open Go.RowKit
attribute [local go_sem] setCell_drewN alloc_drewN
set_option linter.unusedVariables false
set_option linter.unusedSimpArgs false

/-- May an instruction be? (Of an operation's form.) -/
def rightBy (p : Parts) (x : Ins) : Bool :=
  regOk x.rd p.rd && regOk x.rs1 p.rs1 && regOk x.rs2 p.rs2
  && (if p.imm then decide (p.least ≤ x.imm) && decide (x.imm ≤ p.most) && decide (x.imm.tmod p.by_ = 0) else decide (x.imm = 0))
  && (if p.csr then decide (0 ≤ x.csr) && decide (x.csr ≤ 4095) else decide (x.csr = 0))
  && (p.order || (!x.aq && !x.rl))

def known (op : Int) : Bool := decide (1 ≤ op ∧ op ≤ 98)

def right (x : Ins) : Bool := known x.op && rightBy (partsOf (rowAt x.op).form) x

/-- The error's number of a thing that may be, or not. -/
def errOf (b : Bool) : Int := if b then 0 else 30

set_option maxHeartbeats 4000000 in
theorem right_known (x : Ins) (w : World) (h1 : 1 ≤ x.op) (h2 : x.op ≤ 98) (hby : (partsOf (rowAt x.op).form).imm = true → 0 < (partsOf (rowAt x.op).form).by_) :
    Calls Tryd.prog 11 #[.agg #[.int .i64 x.op, .int .i64 x.rd, .int .i64 x.rs1, .int .i64 x.rs2, .int .i64 x.imm, .int .i64 x.csr, .bool x.aq, .bool x.rl]] w fun e w' => e = .returned (.int .i64 (errOf (right x))) ∧ Below w.heap.size w w' := by
  have hr : right x = rightBy (partsOf (rowAt x.op).form) x := by simp [right, known, h1, h2]
  rw [hr]; clear hr
  have hidx := run_tab x.op (by omega) h2
  generalize (rowAt x.op).form = f at *
  have hof := of_any f
  generalize partsOf f = p at *
  obtain ⟨prd, prs1, prs2, pimm, pcsr, pord, least, most, by_⟩ := p
  obtain ⟨op, rd, rs1, rs2, imm, csr, aq, rl⟩ := x
  dsimp only [Parts.v, Parts.cells] at h1 h2 hidx hof hby ⊢
  have HOF := hid hof; clear hof
  have hk : decide (1 ≤ op ∧ op ≤ 98) = true := by simp; omega
  have hrf := run_row1
  cases pimm with
  | false =>
    clear hby
    go_enter Tryd.func11, Tryd.ntmps11
    go_wp2_with (first | (go_at_call 43; refine (known_any _ _).mono ?_; rintro e w' ⟨rfl, rfl⟩))
    go_region_held3 (fun w' => w'.cell? ⟨w.heap.size, 0, none⟩ = some (.int .i64 op)) (go_keep) (first | (go_at_call 28; refine (table_any _).mono ?_; rintro e w' ⟨rfl, rfl⟩) | (go_at_call 44; refine (HOF.out _).mono ?_; rintro e w' ⟨rfl, rfl⟩))
    go_wp2_with (first | (go_at_call 45; refine (reg_any _ _ _).mono ?_; rintro e w' ⟨rfl, rfl⟩))
    all_goals
      go_ret
      refine ⟨ret_int ?_, by repeat (first | exact Below.refl _ _ | apply bel_drewN | apply Below.drew | refine Below.alloc ?_ (by simp; try omega) _)⟩
      clear HOF hidx hrf
      first | (simp [errOf, rightBy, *]; done) | (simp [errOf, rightBy, *]; omega) | (simp_all [errOf, rightBy]; done) | (simp_all [errOf, rightBy]; omega)
  | true =>
    have hby0 := hby rfl
    have hby1 : (by_ == 0) = false := by simp; omega
    clear hby
    go_enter Tryd.func11, Tryd.ntmps11
    go_wp2_with (first | (go_at_call 43; refine (known_any _ _).mono ?_; rintro e w' ⟨rfl, rfl⟩))
    go_region_held3 (fun w' => w'.cell? ⟨w.heap.size, 0, none⟩ = some (.int .i64 op)) (go_keep) (first | (go_at_call 28; refine (table_any _).mono ?_; rintro e w' ⟨rfl, rfl⟩) | (go_at_call 44; refine (HOF.out _).mono ?_; rintro e w' ⟨rfl, rfl⟩))
    go_wp2_with (first | (go_at_call 45; refine (reg_any _ _ _).mono ?_; rintro e w' ⟨rfl, rfl⟩))
    all_goals
      go_ret
      refine ⟨ret_int ?_, by repeat (first | exact Below.refl _ _ | apply bel_drewN | apply Below.drew | refine Below.alloc ?_ (by simp; try omega) _)⟩
      clear HOF hidx hrf
      first | (simp [errOf, rightBy, *]; done) | (simp [errOf, rightBy, *]; omega) | (simp_all [errOf, rightBy]; done) | (simp_all [errOf, rightBy]; omega)

end Go.Proofs.YteidojpklpfdeaaDoor

/- The walks of inst.fixed and inst.Encode. -/
namespace Go.Proofs.YteidojpklpfdeaaDoor
open Go.RowKit
attribute [local go_sem] setCell_drewN alloc_drewN
set_option linter.unusedVariables false
set_option linter.unusedSimpArgs false

/-- The bits by which an operation is told. -/
def fixedOf (r : Row) : Int :=
  let w := if r.form == 1 || r.form == 2 then r.code else or32 r.code (r.f3 * 4096 % 4294967296)
  if r.form == 7 || r.form == 8 || r.form == 9 || r.form == 16 then or32 w (r.f7 * 33554432 % 4294967296)
  else if r.form == 11 then or32 w (r.f7 * 1048576 % 4294967296)
  else if r.form == 14 || r.form == 15 then or32 w (r.f7 * 134217728 % 4294967296)
  else w

set_option maxHeartbeats 4000000 in
theorem fixed_any (r : Row) (w : World) (hf : IsForm r.form) :
    Calls Tryd.prog 30 #[.agg #[.string r.name, .int .i64 r.form, .int .u32 r.code, .int .u32 r.f3, .int .u32 r.f7]] w fun e w' => e = .returned (.int .u32 (fixedOf r)) ∧ w.alloc (.cells #[.string r.name, .int .i64 r.form, .int .u32 r.code, .int .u32 r.f3, .int .u32 r.f7] 60) = w' := by
  obtain ⟨nm, form, code, f3, f7⟩ := r
  dsimp only at hf ⊢
  rcases hf with rfl | rfl | rfl | rfl | rfl | rfl | rfl | rfl | rfl | rfl | rfl | rfl | rfl | rfl | rfl | rfl
  all_goals
    go_enter Tryd.func30, Tryd.ntmps30
    go_wp2
    go_ret
    exact ⟨ret_int (by simp [fixedOf, or32]), rfl⟩

/-- An instruction's word. -/
def wordOf (x : Ins) : Int :=
  let r := rowAt x.op
  let w := or32 (or32 (or32 r.code (x.rd % 4294967296 * 128 % 4294967296)) (x.rs1 % 4294967296 * 32768 % 4294967296)) (x.rs2 % 4294967296 * 1048576 % 4294967296)
  or32 (if r.form == 1 || r.form == 2 then w else or32 w (r.f3 * 4096 % 4294967296)) (restOf r.form r.f7 x.imm x.csr x.aq x.rl)

set_option maxHeartbeats 4000000 in
theorem encode_bad (x : Ins) (w : World) (hr : right x = false)
    (H : ∀ w, Calls Tryd.prog 11 #[.agg #[.int .i64 x.op, .int .i64 x.rd, .int .i64 x.rs1, .int .i64 x.rs2, .int .i64 x.imm, .int .i64 x.csr, .bool x.aq, .bool x.rl]] w fun e w' => e = .returned (.int .i64 (errOf (right x))) ∧ Below w.heap.size w w') :
    Calls Tryd.prog 13 #[.agg #[.int .i64 x.op, .int .i64 x.rd, .int .i64 x.rs1, .int .i64 x.rs2, .int .i64 x.imm, .int .i64 x.csr, .bool x.aq, .bool x.rl]] w fun e w' => e = .returned (.tuple #[.int .u32 0, .int .i64 30]) ∧ Below w.heap.size w w' := by
  have e30 : errOf false = 30 := rfl
  rw [hr, e30] at H
  have H1 := hid H; clear H e30
  go_enter Tryd.func13, Tryd.ntmps13
  go_wp2_with (go_at_call 11; refine (H1.out _).mono ?_; rintro e w' ⟨rfl, hb⟩)
  go_ret2
  exact ⟨rfl, ((Below.refl _ _).alloc (Nat.le_refl _) _).trans (hb.mono (by simp))⟩

set_option maxHeartbeats 4000000 in
theorem encode_good (x : Ins) (w : World) (h1 : 1 ≤ x.op) (h2 : x.op ≤ 98) (hr : right x = true) (hf : IsForm (rowAt x.op).form)
    (H : ∀ w, Calls Tryd.prog 11 #[.agg #[.int .i64 x.op, .int .i64 x.rd, .int .i64 x.rs1, .int .i64 x.rs2, .int .i64 x.imm, .int .i64 x.csr, .bool x.aq, .bool x.rl]] w fun e w' => e = .returned (.int .i64 (errOf (right x))) ∧ Below w.heap.size w w') :
    Calls Tryd.prog 13 #[.agg #[.int .i64 x.op, .int .i64 x.rd, .int .i64 x.rs1, .int .i64 x.rs2, .int .i64 x.imm, .int .i64 x.csr, .bool x.aq, .bool x.rl]] w fun e w' => e = .returned (.tuple #[.int .u32 (wordOf x), .int .i64 0]) ∧ Below w.heap.size w w' := by
  have e0 : errOf true = 0 := rfl
  rw [hr, e0] at H
  have H1 := hid H; clear H e0 hr
  have hidx := run_tab x.op (by omega) h2
  have HW := hid (show wordOf x = or32 (if (rowAt x.op).form == 1 || (rowAt x.op).form == 2 then _ else _) _ from rfl)
  have HR := hid (fun w => rest_any (rowAt x.op) x w hf)
  generalize hrow : rowAt x.op = r at *
  have HROW := hid hrow; clear hrow
  obtain ⟨nm, form, code, f3, f7⟩ := r
  obtain ⟨op, rd, rs1, rs2, imm, csr, aq, rl⟩ := x
  dsimp only at h1 h2 hidx hf HR ⊢
  have hft : (form = 1 ∨ form = 2) ∨ ((form != 1) = true ∧ (form != 2) = true) := by
    simp only [bne_iff_ne]; omega
  clear hf
  go_enter Tryd.func13, Tryd.ntmps13
  go_wp2_with (go_at_call 11; refine (H1.out _).mono ?_; rintro e w1 ⟨rfl, hb⟩)
  have hz : w.heap.size < w1.heap.size := by have := hb.size; simp at this; omega
  have c0 : w1.cell? ⟨w.heap.size, 0, none⟩ = some (.int .i64 op) := (hb.cell (by simp)).trans (by simp)
  have c1 : w1.cell? ⟨w.heap.size, 1, none⟩ = some (.int .i64 rd) := (hb.cell (by simp)).trans (by simp)
  have c2 : w1.cell? ⟨w.heap.size, 2, none⟩ = some (.int .i64 rs1) := (hb.cell (by simp)).trans (by simp)
  have c3 : w1.cell? ⟨w.heap.size, 3, none⟩ = some (.int .i64 rs2) := (hb.cell (by simp)).trans (by simp)
  have c4 : w1.cell? ⟨w.heap.size, 4, none⟩ = some (.int .i64 imm) := (hb.cell (by simp)).trans (by simp)
  have c5 : w1.cell? ⟨w.heap.size, 5, none⟩ = some (.int .i64 csr) := (hb.cell (by simp)).trans (by simp)
  have c6 : w1.cell? ⟨w.heap.size, 6, none⟩ = some (.bool aq) := (hb.cell (by simp)).trans (by simp)
  have c7 : w1.cell? ⟨w.heap.size, 7, none⟩ = some (.bool rl) := (hb.cell (by simp)).trans (by simp)
  have HB := hid hb; clear hb
  go_region_held3 (fun w2 => w2.cell? ⟨w.heap.size, 0, none⟩ = some (.int .i64 op)) (go_keep) (first | (go_at_call 28; refine (table_any _).mono ?_; rintro e w' ⟨rfl, rfl⟩))
  all_goals
    have HB2 : Below w.heap.size w w1 := ((Below.refl _ _).alloc (Nat.le_refl _) _).trans (HB.out.mono (by simp))
    have hz2 := HB2.size
    rcases hft with (rfl | rfl) | ⟨hf1, hf2⟩
    all_goals
      go_wp2_with fail
      refine (HR.out _).mono ?_
      rintro e w2 ⟨rfl, hb2⟩
      clear hidx c0 c1 c2 c3 c4 c5 c6 c7
      go_wp2_with fail
      go_ret2
      refine ⟨congrArg Ending.returned (congrArg Value.tuple (congrArg (fun z => #[Value.int .u32 z, Value.int .i64 0]) ?_)), ?_⟩
      · rw [HW.out]
        first | (simp [or32, *]; done) | (simp only [bne_iff_ne, ne_eq] at hf1 hf2; simp [or32, hf1, hf2])
      · refine Below.trans ?_ (hb2.mono (by simp [heap_drew]; omega))
        repeat (first | exact HB2 | apply Below.drew | refine Below.alloc ?_ (by first | exact hz2 | (simp [heap_drew]; omega)) _)

end Go.Proofs.YteidojpklpfdeaaDoor

/- The walk of inst.Decode. -/
namespace Go.Proofs.YteidojpklpfdeaaDoor
open Go.RowKit
attribute [local go_sem] setCell_drewN alloc_drewN
set_option linter.unusedVariables false
set_option linter.unusedSimpArgs false

theorem bel_setRow {B : Nat} {a w : World} {g : Nat} {cs : Array Value} (h : Below B a w) (hg : B ≤ g) : Below B a (w.setRow g cs) :=
  ⟨h.os, h.tape, h.output, by rw [setRow_size]; exact h.size, fun k hk => (setRow_other w g k cs (by omega)).trans (h.block k hk)⟩

/-- The store of a whole value into the row that holds one. -/
theorem wpList_store_row {P : Program} {ops : Array Oper} {rest : List Oper} {o : Oper} {a : Act} {w : World} {Q : Exit → Act → World → Prop} (hgd : o.guard = none) (ty : TypeId) (x v : Operand) (ho : o.op = .store ty x v)
    (g : Nat) (hx : a.eval x = .pointer (some ⟨g, 0, none⟩)) (cells old : Array Value) (t : TypeId) (hv : a.eval v = .agg cells) (hg : w.heap[g]? = some (.cells old t (0, 0)))
    (hi : (P.info? ty).map (·.size) = some cells.size) (hs : old.size = cells.size) (h1 : cells.toList.all (·.oneCell') = true)
    (h : wpList P ops Q rest (a.put o.dst undef) (w.setRow g cells)) : wpList P ops Q (o :: rest) a w := by
  refine wpList_plain hgd fun K hK => ?_
  unfold Oper.wp
  have hr : (execOp a.eval o).run P w = .ok .skip (w.setRow g cells) := by
    simp only [execOp, ho, hx, hv, Instr.storeAt, Instr.sureAddr, Sem.run_bind, Sem.run_pure, Result.andThen_ok, run_storeVar_row w g t ty old cells hg hi hs (by rw [← Array.all_toList]; exact h1)]
  rw [hr, Oper.upon_skip]
  exact hK _ _ h

def hit (w : Int) (r : Row) : Bool := bits .and .u32 w (maskOf r.form) == fixedOf r
def NoHit (w : Int) (k : Nat) : Prop := ∀ j : Nat, 1 ≤ j → j < k → hit w (rowAt j) = false
def zeroIns : Ins := ⟨0, 0, 0, 0, 0, 0, false, false⟩

theorem form_ok (op : Int) (h0 : 1 ≤ op) (h1 : op ≤ 98) : IsForm (rowAt op).form := by
  have key : ∀ i : Fin 98, (allRows.getD (i.val + 1) row0).form = 1 ∨ (allRows.getD (i.val + 1) row0).form = 2 ∨ (allRows.getD (i.val + 1) row0).form = 3 ∨ (allRows.getD (i.val + 1) row0).form = 4 ∨ (allRows.getD (i.val + 1) row0).form = 5 ∨ (allRows.getD (i.val + 1) row0).form = 6 ∨ (allRows.getD (i.val + 1) row0).form = 7 ∨ (allRows.getD (i.val + 1) row0).form = 8 ∨ (allRows.getD (i.val + 1) row0).form = 9 ∨ (allRows.getD (i.val + 1) row0).form = 10 ∨ (allRows.getD (i.val + 1) row0).form = 11 ∨ (allRows.getD (i.val + 1) row0).form = 12 ∨ (allRows.getD (i.val + 1) row0).form = 13 ∨ (allRows.getD (i.val + 1) row0).form = 14 ∨ (allRows.getD (i.val + 1) row0).form = 15 ∨ (allRows.getD (i.val + 1) row0).form = 16 := by decide +kernel
  have h := key ⟨(op - 1).toNat, by omega⟩
  have e : (op - 1).toNat + 1 = op.toNat := by omega
  simp only [e] at h
  exact h

def Decoded (x : Int) (a : Ins) (e : Int) : Prop :=
  (∃ k : Nat, 1 ≤ k ∧ k ≤ 98 ∧ NoHit x k ∧ hit x (rowAt k) = true ∧ a = fieldsOf k (rowAt k).form x ∧ e = 0) ∨ (NoHit x 99 ∧ a = zeroIns ∧ e = 31)

def DecPost (x : Int) (w : World) (e : Ending) (w' : World) : Prop :=
  ∃ a c, Decoded x a c ∧ e = .returned (.tuple #[a.v, .int .i64 c]) ∧ Below w.heap.size w w'

set_option maxHeartbeats 4000000 in
set_option maxRecDepth 100000 in
theorem decode_any (x : Int) (w : World) (h0 : 0 ≤ x) (h1 : x < 4294967296) :
    Calls Tryd.prog 9 #[.int .u32 x] w (DecPost x w) := by
  have hrf := run_row1
  go_enter Tryd.func9, Tryd.ntmps9
  go_wp2
  go_loopw [4] (fun i wr => ∃ k : Nat, 1 ≤ k ∧ k ≤ 99 ∧ i = .int .i64 k ∧ NoHit x k ∧ Below (w.heap.size + 1) (w.alloc (.cells #[.int .i64 0, .int .i64 0, .int .i64 0, .int .i64 0, .int .i64 0, .int .i64 0, .bool false, .bool false] 24)) wr)
    (fun i _ => 99 - (intOf i).toNat)
  case atStart => exact ⟨1, by omega, by omega, rfl, fun j h1 h2 => by omega, Below.refl _ _⟩
  case round =>
    obtain ⟨k, hk0, hk, rfl, hno, hnx⟩ := hrel
    have hz : w.heap.size + 1 ≤ wr.heap.size := by have := hnx.size; simp at this; exact this
    have HNO := hid hno; clear hno
    have HNX := hid hnx; clear hnx
    by_cases hlt : k ≤ 98
    · have hidx := run_tab k (by omega) (by omega)
      have hfo := form_ok k (by omega) (by omega)
      generalize hrow : rowAt (k : Int) = r at *
      have HROW := hid hrow; clear hrow
      have HFX := hid (fun w => fixed_any r w hfo)
      have HFO := hid hfo; clear hfo
      obtain ⟨nm, form, code, f3, f7⟩ := r
      dsimp only at hidx HFX HFO
      go_wp2_with (first | (go_at_call 28; refine (table_any _).mono ?_; rintro e w' ⟨rfl, rfl⟩))
      go_region_held3 (fun w2 => w2.cell? ⟨wr.heap.size + 1, 0, none⟩ = some (.string nm) ∧ w2.cell? ⟨wr.heap.size + 1, 1, none⟩ = some (.int .i64 form) ∧ w2.cell? ⟨wr.heap.size + 1, 2, none⟩ = some (.int .u32 code) ∧ w2.cell? ⟨wr.heap.size + 1, 3, none⟩ = some (.int .u32 f3) ∧ w2.cell? ⟨wr.heap.size + 1, 4, none⟩ = some (.int .u32 f7)) (go_keep) (first | (go_at_call 29; refine (maskOf_any _ _).mono ?_; rintro e w' ⟨rfl, rfl⟩) | (go_at_call 30; refine (HFX.out _).mono ?_; rintro e w' ⟨rfl, rfl⟩))
      clear hidx
      cases hh : bits .and .u32 x (maskOf form) == fixedOf ⟨nm, form, code, f3, f7⟩ with
      | true =>
        go_wp2_with fail
        refine (fields_any _ _ _ _ h0 (by omega) HFO.out).mono ?_
        rintro e w2 ⟨rfl, hb2⟩
        have hblk : w2.heap[w.heap.size]? = some (.cells #[.int .i64 0, .int .i64 0, .int .i64 0, .int .i64 0, .int .i64 0, .int .i64 0, .bool false, .bool false] 24 (0, 0)) := by
          rw [hb2.block _ (by simp [heap_drew]; omega)]
          have hlt2 : w.heap.size < wr.heap.size := by omega
          simp only [heap_drew]
          rw [Below.heap_alloc _ _ _ (by simp [heap_drew]; omega), Below.heap_alloc _ _ _ (by simp; omega), Below.heap_alloc _ _ _ hlt2, HNX.out.block _ (by omega)]
          exact heap_alloc_new _ _
        have hbw : Below w.heap.size w w2 := by
          refine Below.trans ?_ (hb2.mono (by simp [heap_drew]; omega))
          have h9 : Below w.heap.size w wr := ((Below.refl _ _).alloc (Nat.le_refl _) _).trans (HNX.out.mono (by omega))
          have hzz : w.heap.size ≤ wr.heap.size := by omega
          repeat (first | exact h9 | apply Below.drew | refine Below.alloc ?_ (by first | exact hzz | (simp [heap_drew]; omega)) _)
        have HY := hid (show fieldsOf k form x = fieldsOf k form x from rfl)
        generalize hy : fieldsOf k form x = y
        have HYY := hid hy; clear hy HY hb2
        obtain ⟨a0, a1, a2, a3, a4, a5, a6, a7⟩ := y
        dsimp only [Ins.v]
        have HB := hid hblk; have HW := hid hbw; clear hblk hbw
        have hi23 : (Tryd.prog.info? 24).map (·.size) = some 8 := by kernel_rfl
        go_wp2_with (refine wpList_store_row rfl 24 (.tmp 2) (.tmp 26) rfl w.heap.size rfl #[.int .i64 a0, .int .i64 a1, .int .i64 a2, .int .i64 a3, .int .i64 a4, .int .i64 a5, .bool a6, .bool a7] _ _ rfl HB.out hi23 rfl rfl ?_)
        refine bodyPost_ret (v := .tuple #[.agg #[.int .i64 a0, .int .i64 a1, .int .i64 a2, .int .i64 a3, .int .i64 a4, .int .i64 a5, .bool a6, .bool a7], .int .i64 0]) ?_ rfl ?_
        · rw [results_cell_tmp (p := 2) (u := 3) (ty := 24) rfl]
          have hl := run_loadVar_row (P := Tryd.prog) (w2.setRow w.heap.size #[.int .i64 a0, .int .i64 a1, .int .i64 a2, .int .i64 a3, .int .i64 a4, .int .i64 a5, .bool a6, .bool a7]) w.heap.size 24 24 _ (0, 0) _ (setRow_heap _ _ _ _ _ _ HB.out) Tryd.underlying24 rfl hi23
          simp [asAddr, hl]
        · exact ⟨⟨a0, a1, a2, a3, a4, a5, a6, a7⟩, 0, .inl ⟨k, hk0, hlt, HNO.out, by rw [HROW.out]; exact hh, by rw [HROW.out]; exact HYY.out.symm, rfl⟩, rfl, bel_setRow HW.out (Nat.le_refl _)⟩
      | false =>
        go_wp2
        have hh2 : hit x (rowAt k) = false := by rw [HROW.out]; exact hh
        refine ⟨⟨k + 1, by omega, by omega, by go_num, ?_, ?_⟩, by simp [intOf] <;> omega⟩
        · intro j h1 h2
          by_cases e : j = k
          · rw [e]; exact hh2
          · exact HNO.out j h1 (by omega)
        · have hzz : w.heap.size + 1 ≤ wr.heap.size := by omega
          have h9 := HNX.out
          repeat (first | exact h9 | apply Below.drew | refine Below.alloc ?_ (by first | exact hzz | (simp [heap_drew]; omega)) _)
    · have e : k = 99 := by omega
      subst e
      have HB := hid ((HNX.out.block w.heap.size (by omega)).trans (heap_alloc_new w (.cells #[.int .i64 0, .int .i64 0, .int .i64 0, .int .i64 0, .int .i64 0, .int .i64 0, .bool false, .bool false] 24)))
      have hi23 : (Tryd.prog.info? 24).map (·.size) = some 8 := by kernel_rfl
      go_wp2_with (refine wpList_store_row rfl 24 (.tmp 2) (.tmp 27) rfl w.heap.size rfl #[.int .i64 0, .int .i64 0, .int .i64 0, .int .i64 0, .int .i64 0, .int .i64 0, .bool false, .bool false] _ _ rfl HB.out hi23 rfl rfl ?_)
      refine bodyPost_ret (v := .tuple #[.agg #[.int .i64 0, .int .i64 0, .int .i64 0, .int .i64 0, .int .i64 0, .int .i64 0, .bool false, .bool false], .int .i64 31]) ?_ rfl ?_
      · rw [results_cell_tmp (p := 2) (u := 3) (ty := 24) rfl]
        have hl := run_loadVar_row (P := Tryd.prog) (wr.setRow w.heap.size #[.int .i64 0, .int .i64 0, .int .i64 0, .int .i64 0, .int .i64 0, .int .i64 0, .bool false, .bool false]) w.heap.size 24 24 _ (0, 0) _ (setRow_heap _ _ _ _ _ _ HB.out) Tryd.underlying24 rfl hi23
        simp [asAddr, hl]
      · exact ⟨zeroIns, 31, .inr ⟨HNO.out, rfl, rfl⟩, rfl, bel_setRow (((Below.refl _ _).alloc (Nat.le_refl _) _).trans (HNX.out.mono (by omega))) (Nat.le_refl _)⟩

end Go.Proofs.YteidojpklpfdeaaDoor

/- The walks of inst: Name, Find, Loads, Stores, Branches, Atomics, Systems, Width. -/
namespace Go.Proofs.YteidojpklpfdeaaDoor
open Go.RowKit
attribute [local go_sem] setCell_drewN alloc_drewN
set_option linter.unusedVariables false
set_option linter.unusedSimpArgs false

set_option maxHeartbeats 400000 in
theorem name_any (op : Int) (w : World) :
    Calls Tryd.prog 32 #[.int .i64 op] w fun e w' => e = .returned (.string (if known op then (rowAt op).name else ⟨#[]⟩)) ∧ Below w.heap.size w w' := by
  have HK := hid (show ∀ w, Calls Tryd.prog 43 #[.int .i64 op] w fun e w' => e = .returned (.bool (known op)) ∧ w = w' from fun w => known_any op w)
  cases hk : known op with
  | false =>
    go_enter Tryd.func32, Tryd.ntmps32
    go_wp2_with (go_at_call 43; refine (HK.out _).mono ?_; rintro e w' ⟨rfl, rfl⟩)
    go_ret
    exact ⟨rfl, Below.refl _ _⟩
  | true =>
    have hb : 1 ≤ op ∧ op ≤ 98 := by simpa [known] using hk
    have hidx := run_tab op (by omega) hb.2
    have hrf := run_row0
    go_enter Tryd.func32, Tryd.ntmps32
    go_wp2_with (first | (go_at_call 43; refine (HK.out _).mono ?_; rintro e w' ⟨rfl, rfl⟩) | (go_at_call 28; refine (table_any _).mono ?_; rintro e w' ⟨rfl, rfl⟩))
    go_ret
    exact ⟨rfl, (Below.refl _ _).alloc (Nat.le_refl _) _⟩

def loadsB (op : Int) : Bool := known op && (rowAt op).form == 5
def storesB (op : Int) : Bool := known op && (rowAt op).form == 6
def branchesB (op : Int) : Bool := known op && (rowAt op).form == 4
def atomicsB (op : Int) : Bool := known op && ((rowAt op).form == 15 || (rowAt op).form == 14)
def systemsB (op : Int) : Bool := known op && ((rowAt op).form == 12 || (rowAt op).form == 13)

set_option maxHeartbeats 800000 in
theorem loads_any (op : Int) (w : World) :
    Calls Tryd.prog 36 #[.int .i64 op] w fun e w' => e = .returned (.bool (loadsB op)) ∧ Below w.heap.size w w' := by
  have HK := hid (show ∀ w, Calls Tryd.prog 43 #[.int .i64 op] w fun e w' => e = .returned (.bool (known op)) ∧ w = w' from fun w => known_any op w)
  cases hk : known op with
  | false =>
    go_enter Tryd.func36, Tryd.ntmps36
    go_wp2_with (go_at_call 43; refine (HK.out _).mono ?_; rintro e w' ⟨rfl, rfl⟩)
    go_ret
    exact ⟨ret_bool (by simp [loadsB, hk]), Below.refl _ _⟩
  | true =>
    have hb : 1 ≤ op ∧ op ≤ 98 := by simpa [known] using hk
    have hidx := run_tab op (by omega) hb.2
    have hrf := run_row1
    have HD := hid (show loadsB op = (known op && _) from rfl)
    rw [hk] at HD
    generalize rowAt op = r at *
    go_enter Tryd.func36, Tryd.ntmps36
    go_wp2_with (first | (go_at_call 43; refine (HK.out _).mono ?_; rintro e w' ⟨rfl, rfl⟩) | (go_at_call 28; refine (table_any _).mono ?_; rintro e w' ⟨rfl, rfl⟩))
    all_goals
      go_ret
      refine ⟨ret_bool (by rw [HD.out]; simp [*]), ?_⟩
      repeat (first | exact Below.refl _ _ | refine Below.alloc ?_ (by first | (simp; done) | (simp; omega) | exact Nat.le_refl _) _)

set_option maxHeartbeats 800000 in
theorem stores_any (op : Int) (w : World) :
    Calls Tryd.prog 37 #[.int .i64 op] w fun e w' => e = .returned (.bool (storesB op)) ∧ Below w.heap.size w w' := by
  have HK := hid (show ∀ w, Calls Tryd.prog 43 #[.int .i64 op] w fun e w' => e = .returned (.bool (known op)) ∧ w = w' from fun w => known_any op w)
  cases hk : known op with
  | false =>
    go_enter Tryd.func37, Tryd.ntmps37
    go_wp2_with (go_at_call 43; refine (HK.out _).mono ?_; rintro e w' ⟨rfl, rfl⟩)
    go_ret
    exact ⟨ret_bool (by simp [storesB, hk]), Below.refl _ _⟩
  | true =>
    have hb : 1 ≤ op ∧ op ≤ 98 := by simpa [known] using hk
    have hidx := run_tab op (by omega) hb.2
    have hrf := run_row1
    have HD := hid (show storesB op = (known op && _) from rfl)
    rw [hk] at HD
    generalize rowAt op = r at *
    go_enter Tryd.func37, Tryd.ntmps37
    go_wp2_with (first | (go_at_call 43; refine (HK.out _).mono ?_; rintro e w' ⟨rfl, rfl⟩) | (go_at_call 28; refine (table_any _).mono ?_; rintro e w' ⟨rfl, rfl⟩))
    all_goals
      go_ret
      refine ⟨ret_bool (by rw [HD.out]; simp [*]), ?_⟩
      repeat (first | exact Below.refl _ _ | refine Below.alloc ?_ (by first | (simp; done) | (simp; omega) | exact Nat.le_refl _) _)

set_option maxHeartbeats 800000 in
theorem branches_any (op : Int) (w : World) :
    Calls Tryd.prog 38 #[.int .i64 op] w fun e w' => e = .returned (.bool (branchesB op)) ∧ Below w.heap.size w w' := by
  have HK := hid (show ∀ w, Calls Tryd.prog 43 #[.int .i64 op] w fun e w' => e = .returned (.bool (known op)) ∧ w = w' from fun w => known_any op w)
  cases hk : known op with
  | false =>
    go_enter Tryd.func38, Tryd.ntmps38
    go_wp2_with (go_at_call 43; refine (HK.out _).mono ?_; rintro e w' ⟨rfl, rfl⟩)
    go_ret
    exact ⟨ret_bool (by simp [branchesB, hk]), Below.refl _ _⟩
  | true =>
    have hb : 1 ≤ op ∧ op ≤ 98 := by simpa [known] using hk
    have hidx := run_tab op (by omega) hb.2
    have hrf := run_row1
    have HD := hid (show branchesB op = (known op && _) from rfl)
    rw [hk] at HD
    generalize rowAt op = r at *
    go_enter Tryd.func38, Tryd.ntmps38
    go_wp2_with (first | (go_at_call 43; refine (HK.out _).mono ?_; rintro e w' ⟨rfl, rfl⟩) | (go_at_call 28; refine (table_any _).mono ?_; rintro e w' ⟨rfl, rfl⟩))
    all_goals
      go_ret
      refine ⟨ret_bool (by rw [HD.out]; simp [*]), ?_⟩
      repeat (first | exact Below.refl _ _ | refine Below.alloc ?_ (by first | (simp; done) | (simp; omega) | exact Nat.le_refl _) _)

set_option maxHeartbeats 800000 in
theorem atomics_any (op : Int) (w : World) :
    Calls Tryd.prog 41 #[.int .i64 op] w fun e w' => e = .returned (.bool (atomicsB op)) ∧ Below w.heap.size w w' := by
  have HK := hid (show ∀ w, Calls Tryd.prog 43 #[.int .i64 op] w fun e w' => e = .returned (.bool (known op)) ∧ w = w' from fun w => known_any op w)
  cases hk : known op with
  | false =>
    go_enter Tryd.func41, Tryd.ntmps41
    go_wp2_with (go_at_call 43; refine (HK.out _).mono ?_; rintro e w' ⟨rfl, rfl⟩)
    go_ret
    exact ⟨ret_bool (by simp [atomicsB, hk]), Below.refl _ _⟩
  | true =>
    have hb : 1 ≤ op ∧ op ≤ 98 := by simpa [known] using hk
    have hidx := run_tab op (by omega) hb.2
    have hrf := run_row1
    have HD := hid (show atomicsB op = (known op && _) from rfl)
    rw [hk] at HD
    generalize rowAt op = r at *
    go_enter Tryd.func41, Tryd.ntmps41
    go_wp2_with (first | (go_at_call 43; refine (HK.out _).mono ?_; rintro e w' ⟨rfl, rfl⟩) | (go_at_call 28; refine (table_any _).mono ?_; rintro e w' ⟨rfl, rfl⟩))
    all_goals
      go_ret
      refine ⟨ret_bool (by rw [HD.out]; simp [*]), ?_⟩
      repeat (first | exact Below.refl _ _ | refine Below.alloc ?_ (by first | (simp; done) | (simp; omega) | exact Nat.le_refl _) _)

set_option maxHeartbeats 800000 in
theorem systems_any (op : Int) (w : World) :
    Calls Tryd.prog 39 #[.int .i64 op] w fun e w' => e = .returned (.bool (systemsB op)) ∧ Below w.heap.size w w' := by
  have HK := hid (show ∀ w, Calls Tryd.prog 43 #[.int .i64 op] w fun e w' => e = .returned (.bool (known op)) ∧ w = w' from fun w => known_any op w)
  cases hk : known op with
  | false =>
    go_enter Tryd.func39, Tryd.ntmps39
    go_wp2_with (go_at_call 43; refine (HK.out _).mono ?_; rintro e w' ⟨rfl, rfl⟩)
    go_ret
    exact ⟨ret_bool (by simp [systemsB, hk]), Below.refl _ _⟩
  | true =>
    have hb : 1 ≤ op ∧ op ≤ 98 := by simpa [known] using hk
    have hidx := run_tab op (by omega) hb.2
    have hrf := run_row1
    have HD := hid (show systemsB op = (known op && _) from rfl)
    rw [hk] at HD
    generalize rowAt op = r at *
    go_enter Tryd.func39, Tryd.ntmps39
    go_wp2_with (first | (go_at_call 43; refine (HK.out _).mono ?_; rintro e w' ⟨rfl, rfl⟩) | (go_at_call 28; refine (table_any _).mono ?_; rintro e w' ⟨rfl, rfl⟩))
    all_goals
      go_ret
      refine ⟨ret_bool (by rw [HD.out]; simp [*]), ?_⟩
      repeat (first | exact Below.refl _ _ | refine Below.alloc ?_ (by first | (simp; done) | (simp; omega) | exact Nat.le_refl _) _)


end Go.Proofs.YteidojpklpfdeaaDoor

/- The walk of inst.Find. -/
namespace Go.Proofs.YteidojpklpfdeaaDoor
open Go.RowKit
attribute [local go_sem] setCell_drewN alloc_drewN
set_option linter.unusedVariables false
set_option linter.unusedSimpArgs false

/-- The operation of a name: the first one that has it; 0: none. -/
def IsFind (nm : ByteArray) (r : Int) : Prop :=
  (∃ k : Nat, 1 ≤ k ∧ k ≤ 98 ∧ (∀ j : Nat, 1 ≤ j → j < k → ((rowAt j).name.toList == nm.toList) = false) ∧ ((rowAt k).name.toList == nm.toList) = true ∧ r = k) ∨ ((∀ j : Nat, 1 ≤ j → j ≤ 98 → ((rowAt j).name.toList == nm.toList) = false) ∧ r = 0)

def FindPost (nm : ByteArray) (w : World) (e : Ending) (w' : World) : Prop := ∃ r, IsFind nm r ∧ e = .returned (.int .i64 r) ∧ Below w.heap.size w w'

set_option maxHeartbeats 1600000 in
theorem find_any (nm : ByteArray) (w : World) : Calls Tryd.prog 49 #[.string nm] w (FindPost nm w) := by
  have hrf := run_row0
  go_enter Tryd.func49, Tryd.ntmps49
  go_wp2
  go_loopw [3] (fun i wr => ∃ k : Nat, 1 ≤ k ∧ k ≤ 99 ∧ i = .int .i64 k ∧ (∀ j : Nat, 1 ≤ j → j < k → ((rowAt j).name.toList == nm.toList) = false) ∧ Below w.heap.size w wr)
    (fun i _ => 99 - (intOf i).toNat)
  case atStart => exact ⟨1, by omega, by omega, rfl, fun j h1 h2 => by omega, Below.refl _ _⟩
  case round =>
    obtain ⟨k, hk0, hk, rfl, hno, hnx⟩ := hrel
    have HNO := hid hno; clear hno
    have HNX := hid hnx; clear hnx
    by_cases hlt : k ≤ 98
    · have hidx := run_tab k (by omega) (by omega)
      generalize hrow : rowAt (k : Int) = r at *
      have HROW := hid hrow; clear hrow
      obtain ⟨rn, form, code, f3, f7⟩ := r
      dsimp only at hidx
      go_wp2_with (first | (go_at_call 28; refine (table_any _).mono ?_; rintro e w' ⟨rfl, rfl⟩))
      · go_ret
        have hc : ((rowAt k).name.toList == nm.toList) = true := by rw [HROW.out]; assumption
        exact ⟨k, .inl ⟨k, hk0, hlt, HNO.out, hc, rfl⟩, rfl, HNX.out.alloc HNX.out.size _⟩
      · have hc : ((rowAt k).name.toList == nm.toList) = false := by rw [HROW.out]; assumption
        refine ⟨⟨k + 1, by omega, by omega, by go_num, ?_, HNX.out.alloc HNX.out.size _⟩, by simp [intOf] <;> omega⟩
        intro j h1 h2
        by_cases e : j = k
        · rw [e]; exact hc
        · exact HNO.out j h1 (by omega)
    · have e : k = 99 := by omega
      subst e
      go_wp2
      go_ret
      exact ⟨0, .inr ⟨fun j h1 h2 => HNO.out j h1 (by omega), rfl⟩, rfl, HNX.out⟩

end Go.Proofs.YteidojpklpfdeaaDoor

/- inst.Encode and inst.Right, of any instruction. -/
namespace Go.Proofs.YteidojpklpfdeaaDoor
open Go.RowKit
attribute [local go_sem] setCell_drewN alloc_drewN
set_option linter.unusedVariables false
set_option linter.unusedSimpArgs false

theorem parts_by (f : Int) (hf : IsForm f) : (partsOf f).imm = true → 0 < (partsOf f).by_ := by
  rcases hf with rfl | rfl | rfl | rfl | rfl | rfl | rfl | rfl | rfl | rfl | rfl | rfl | rfl | rfl | rfl | rfl <;> decide

set_option maxHeartbeats 1000000 in
theorem right_unknown (x : Ins) (w : World) (h : known x.op = false) :
    Calls Tryd.prog 11 #[.agg #[.int .i64 x.op, .int .i64 x.rd, .int .i64 x.rs1, .int .i64 x.rs2, .int .i64 x.imm, .int .i64 x.csr, .bool x.aq, .bool x.rl]] w fun e w' => e = .returned (.int .i64 30) ∧ Below w.heap.size w w' := by
  have HK := hid (show ∀ w, Calls Tryd.prog 43 #[.int .i64 x.op] w fun e w' => e = .returned (.bool (known x.op)) ∧ w = w' from fun w => known_any x.op w)
  rw [h] at HK
  go_enter Tryd.func11, Tryd.ntmps11
  go_wp2_with (go_at_call 43; refine (HK.out _).mono ?_; rintro e w' ⟨rfl, rfl⟩)
  go_ret
  exact ⟨rfl, (Below.refl _ _).alloc (Nat.le_refl _) _⟩

theorem right_any (x : Ins) (w : World) :
    Calls Tryd.prog 11 #[.agg #[.int .i64 x.op, .int .i64 x.rd, .int .i64 x.rs1, .int .i64 x.rs2, .int .i64 x.imm, .int .i64 x.csr, .bool x.aq, .bool x.rl]] w fun e w' => e = .returned (.int .i64 (errOf (right x))) ∧ Below w.heap.size w w' := by
  cases hk : known x.op with
  | false =>
    have e : right x = false := by simp [right, hk]
    rw [e]
    exact right_unknown x w hk
  | true =>
    have hb : 1 ≤ x.op ∧ x.op ≤ 98 := by simpa [known] using hk
    exact right_known x w hb.1 hb.2 (parts_by _ (form_ok x.op hb.1 hb.2))

theorem encode_any (x : Ins) (w : World) :
    Calls Tryd.prog 13 #[.agg #[.int .i64 x.op, .int .i64 x.rd, .int .i64 x.rs1, .int .i64 x.rs2, .int .i64 x.imm, .int .i64 x.csr, .bool x.aq, .bool x.rl]] w fun e w' => e = .returned (.tuple #[.int .u32 (if right x then wordOf x else 0), .int .i64 (errOf (right x))]) ∧ Below w.heap.size w w' := by
  cases hr : right x with
  | false => exact encode_bad x w hr (right_any x)
  | true =>
    have hk : known x.op = true := by simp [right] at hr; exact hr.1
    have hb : 1 ≤ x.op ∧ x.op ≤ 98 := by simpa [known] using hk
    exact encode_good x w hb.1 hb.2 hr (form_ok x.op hb.1 hb.2) (right_any x)

theorem nohit_zero (k : Nat) (h0 : 1 ≤ k) (h1 : k ≤ 98) : hit 0 (rowAt k) = false := by
  have key : ∀ i : Fin 98, hit 0 (allRows.getD (i.val + 1) row0) = false := by decide +kernel
  have h := key ⟨k - 1, by omega⟩
  have e : k - 1 + 1 = k := by omega
  simp only [e] at h
  exact h

end Go.Proofs.YteidojpklpfdeaaDoor
