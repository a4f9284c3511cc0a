/- The walk of inst.Right. -/
import Derived.Test.YthifnlhbioaihaaFields
import Derived.Deep.RegionHeld3
namespace Go.Proofs.Ythifnlhbioaihaa
open Go.RowKit
set_option linter.unusedVariables false
set_option linter.unusedSimpArgs false

/-- May an instruction be? (Of an operation's form.) -/
def rightBy (p : Parts) (x : Ins) : Bool :=
  regOk x.rd p.rd && regOk x.rs1 p.rs1 && regOk x.rs2 p.rs2
  && (if p.imm then decide (p.least ≤ x.imm) && decide (x.imm ≤ p.most) && decide (x.imm.tmod p.by_ = 0) else decide (x.imm = 0))
  && (if p.csr then decide (0 ≤ x.csr) && decide (x.csr ≤ 4095) else decide (x.csr = 0))
  && (p.order || (!x.aq && !x.rl))

def known (op : Int) : Bool := decide (1 ≤ op ∧ op ≤ 98)

def right (x : Ins) : Bool := known x.op && rightBy (partsOf (rowAt x.op).form) x

/-- The error's number of a thing that may be, or not. -/
def errOf (b : Bool) : Int := if b then 0 else 30

set_option maxHeartbeats 4000000 in
theorem right_known (x : Ins) (w : World) (h1 : 1 ≤ x.op) (h2 : x.op ≤ 98) (hby : (partsOf (rowAt x.op).form).imm = true → 0 < (partsOf (rowAt x.op).form).by_) :
    Calls Try.prog 12 #[.agg #[.int .i64 x.op, .int .i64 x.rd, .int .i64 x.rs1, .int .i64 x.rs2, .int .i64 x.imm, .int .i64 x.csr, .bool x.aq, .bool x.rl]] w fun e w' => e = .returned (.int .i64 (errOf (right x))) ∧ Below w.heap.size w w' := by
  have hr : right x = rightBy (partsOf (rowAt x.op).form) x := by simp [right, known, h1, h2]
  rw [hr]; clear hr
  have hidx := run_tab x.op (by omega) h2
  generalize (rowAt x.op).form = f at *
  have hof := of_any f
  generalize partsOf f = p at *
  obtain ⟨prd, prs1, prs2, pimm, pcsr, pord, least, most, by_⟩ := p
  obtain ⟨op, rd, rs1, rs2, imm, csr, aq, rl⟩ := x
  dsimp only [Parts.v, Parts.cells] at h1 h2 hidx hof hby ⊢
  have HOF := hid hof; clear hof
  have hk : decide (1 ≤ op ∧ op ≤ 98) = true := by simp; omega
  have hrf := run_row1
  cases pimm with
  | false =>
    clear hby
    go_enter Try.func12, Try.ntmps12
    go_wp2_with (first | (go_at_call 35; refine (known_any _ _).mono ?_; rintro e w' ⟨rfl, rfl⟩))
    go_region_held3 (fun w' => w'.cell? ⟨w.heap.size, 0, none⟩ = some (.int .i64 op)) (go_keep) (first | (go_at_call 27; refine (table_any _).mono ?_; rintro e w' ⟨rfl, rfl⟩) | (go_at_call 36; refine (HOF.out _).mono ?_; rintro e w' ⟨rfl, rfl⟩))
    go_wp2_with (first | (go_at_call 37; refine (reg_any _ _ _).mono ?_; rintro e w' ⟨rfl, rfl⟩))
    all_goals
      go_ret
      refine ⟨ret_int ?_, by repeat (first | exact Below.refl _ _ | apply bel_drewN | apply Below.drew | refine Below.alloc ?_ (by simp; try omega) _)⟩
      clear HOF hidx hrf
      first | (simp [errOf, rightBy, *]; done) | (simp [errOf, rightBy, *]; omega) | (simp_all [errOf, rightBy]; done) | (simp_all [errOf, rightBy]; omega)
  | true =>
    have hby0 := hby rfl
    have hby1 : (by_ == 0) = false := by simp; omega
    clear hby
    go_enter Try.func12, Try.ntmps12
    go_wp2_with (first | (go_at_call 35; refine (known_any _ _).mono ?_; rintro e w' ⟨rfl, rfl⟩))
    go_region_held3 (fun w' => w'.cell? ⟨w.heap.size, 0, none⟩ = some (.int .i64 op)) (go_keep) (first | (go_at_call 27; refine (table_any _).mono ?_; rintro e w' ⟨rfl, rfl⟩) | (go_at_call 36; refine (HOF.out _).mono ?_; rintro e w' ⟨rfl, rfl⟩))
    go_wp2_with (first | (go_at_call 37; refine (reg_any _ _ _).mono ?_; rintro e w' ⟨rfl, rfl⟩))
    all_goals
      go_ret
      refine ⟨ret_int ?_, by repeat (first | exact Below.refl _ _ | apply bel_drewN | apply Below.drew | refine Below.alloc ?_ (by simp; try omega) _)⟩
      clear HOF hidx hrf
      first | (simp [errOf, rightBy, *]; done) | (simp [errOf, rightBy, *]; omega) | (simp_all [errOf, rightBy]; done) | (simp_all [errOf, rightBy]; omega)

end Go.Proofs.Ythifnlhbioaihaa
