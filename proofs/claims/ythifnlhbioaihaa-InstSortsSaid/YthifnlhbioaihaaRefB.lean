/- The walks of vireoref03: Right, part, number, Word. -/
import Derived.Test.YthifnlhbioaihaaRefA
import Derived.Test.YthifnlhbioaihaaRefW
import Derived.Deep.DeepCutAuto
import Derived.Deep.CutBlock
namespace Go.Proofs.Ythifnlhbioaihaa
open Go.RowKit
set_option linter.unusedVariables false
set_option linter.unusedSimpArgs false

def sysF (f : Int) : Bool := [12, 13].any (· == f)
def ordF (f : Int) : Bool := [14, 15].any (· == f)
def inRange (x : Ins) : Bool := decide (0 ≤ x.rd) && decide (x.rd ≤ 31) && decide (0 ≤ x.rs1) && decide (x.rs1 ≤ 31) && decide (0 ≤ x.rs2) && decide (x.rs2 ≤ 31) && decide (0 ≤ x.csr) && decide (x.csr ≤ 4095)
def partA (f rd rs1 rs2 : Int) : Bool := (rd_ f || rd == 0) && (rs1_ f || rs1 == 0) && (rs2_ f || rs2 == 0)
def partB (f csr : Int) (aq rl : Bool) : Bool := (sysF f || csr == 0) && (ordF f || (!aq && !rl))
def partC (i : Im) (imm : Int) : Bool := decide (i.a ≤ imm) && decide (imm ≤ i.b) && (imm.tmod i.by_ == 0)
def rrightBy (f : Int) (x : Ins) : Bool := inRange x && (partA f x.rd x.rs1 x.rs2 && (partB f x.csr x.aq x.rl && partC (immR f) x.imm))

def rright (x : Ins) : Bool := known x.op && rrightBy (rowAt x.op).form x

theorem in12 (f : Int) (g : Nat) (w : World) (c0 : w.cell? ⟨g, 0, none⟩ = some (.int .i64 12)) (c1 : w.cell? ⟨g, 1, none⟩ = some (.int .i64 13)) :
    Calls Try.prog 33 #[.int .i64 f, .slice (some ⟨g, 0, none⟩) 2 2] w fun e w' => e = .returned (.bool (sysF f)) ∧ w = w' :=
  in_any f g 2 [12, 13] w rfl (by decide) (by intro j h; match j, h with | 0, _ => exact c0 | 1, _ => exact c1 | j + 2, h => simp at h; omega)
theorem in14 (f : Int) (g : Nat) (w : World) (c0 : w.cell? ⟨g, 0, none⟩ = some (.int .i64 14)) (c1 : w.cell? ⟨g, 1, none⟩ = some (.int .i64 15)) :
    Calls Try.prog 33 #[.int .i64 f, .slice (some ⟨g, 0, none⟩) 2 2] w fun e w' => e = .returned (.bool (ordF f)) ∧ w = w' :=
  in_any f g 2 [14, 15] w rfl (by decide) (by intro j h; match j, h with | 0, _ => exact c0 | 1, _ => exact c1 | j + 2, h => simp at h; omega)

set_option maxHeartbeats 400000 in
theorem rright_unknown (x : Ins) (w : World) (h : known x.op = false) :
    Calls Try.prog 11 #[.agg #[.int .i64 x.op, .int .i64 x.rd, .int .i64 x.rs1, .int .i64 x.rs2, .int .i64 x.imm, .int .i64 x.csr, .bool x.aq, .bool x.rl]] w fun e w' => e = .returned (.bool false) ∧ Below w.heap.size w w' := by
  go_enter Try.func11, Try.ntmps11
  go_wp2_with (first | (go_at_call 29; refine (rknown_any _ _).mono ?_; rintro e w' ⟨rfl, rfl⟩))
  go_ret
  exact ⟨rfl, (Below.refl _ _).alloc (Nat.le_refl _) _⟩

theorem run_rrow0 (a b c d e : Value) (w : World) : (Instr.field 39 (.agg #[a, b, c, d, e]) 0).run Try.prog w = .ok a w := by kernel_rfl
theorem run_rrow1 (a b c d e : Value) (w : World) : (Instr.field 39 (.agg #[a, b, c, d, e]) 1).run Try.prog w = .ok b w := by kernel_rfl

theorem immR_by (f : Int) : 0 < (immR f).by_ := by unfold immR; repeat' split <;> try decide

set_option maxHeartbeats 4000000 in
set_option maxRecDepth 100000 in
theorem rright_known (x : Ins) (w : World) (h1 : 1 ≤ x.op) (h2 : x.op ≤ 98) :
    Calls Try.prog 11 #[.agg #[.int .i64 x.op, .int .i64 x.rd, .int .i64 x.rs1, .int .i64 x.rs2, .int .i64 x.imm, .int .i64 x.csr, .bool x.aq, .bool x.rl]] w fun e w' => e = .returned (.bool (rrightBy (rowAt x.op).form x)) ∧ Below w.heap.size w w' := by
  have hk : known x.op = true := by simp [known]; omega
  have HOF := hid (fun w => of_known x.op w h1 h2)
  have hfo := form_ok x.op h1 h2
  have HI := hid (fun w => immR_any (rowAt x.op).form w hfo)
  have hby := immR_by (rowAt x.op).form
  have HP := hid (show rrightBy (rowAt x.op).form x = (inRange x && (partA (rowAt x.op).form x.rd x.rs1 x.rs2 && (partB (rowAt x.op).form x.csr x.aq x.rl && partC (immR (rowAt x.op).form) x.imm))) from rfl)
  generalize rrightBy (rowAt x.op).form x = rr at *
  generalize immR (rowAt x.op).form = im at *
  generalize rowAt x.op = r at *
  clear hfo
  obtain ⟨ia, ib, iby, iok⟩ := im
  obtain ⟨nm, form, code, f3, f7⟩ := r
  obtain ⟨op, rd, rs1, rs2, imm, csr, aq, rl⟩ := x
  dsimp only at *
  have hb0 : (iby == 0) = false := by simp; omega
  by_cases hin : (0 ≤ rd ∧ rd ≤ 31) ∧ (0 ≤ rs1 ∧ rs1 ≤ 31) ∧ (0 ≤ rs2 ∧ rs2 ≤ 31) ∧ (0 ≤ csr ∧ csr ≤ 4095)
  · have hir : inRange ⟨op, rd, rs1, rs2, imm, csr, aq, rl⟩ = true := by simp [inRange]; omega
    have HR := hid (HP.out.trans (by rw [hir, Bool.true_and])); clear hir HP
    have hrf := run_rrow1
    obtain ⟨⟨g1, g2⟩, ⟨g3, g4⟩, ⟨g5, g6⟩, g7, g8⟩ := hin
    go_enter Try.func11, Try.ntmps11
    go_upto_region 6 with (first | (go_at_call 29; refine (rknown_any _ _).mono ?_; rintro e w' ⟨rfl, rfl⟩) | (go_at_call 16; refine (HOF.out _).mono ?_; rintro e w' ⟨rfl, rfl⟩) | (go_at_call 30; refine (rd_any _ _).mono ?_; rintro e w' ⟨rfl, rfl⟩) | (go_at_call 31; refine (rs1_any _ _).mono ?_; rintro e w' ⟨rfl, rfl⟩) | (go_at_call 32; refine (rs2_any _ _).mono ?_; rintro e w' ⟨rfl, rfl⟩) | (go_at_call 33; first | (refine (in12 _ _ _ ?_ ?_).mono ?_; (focus (simp [go_sem]; done)); (focus (simp [go_sem]; done)); rintro e w' ⟨rfl, rfl⟩) | (refine (in14 _ _ _ ?_ ?_).mono ?_; (focus (simp [go_sem]; done)); (focus (simp [go_sem]; done)); rintro e w' ⟨rfl, rfl⟩)) | (go_at_call 34; refine (HI.out _).mono ?_; rintro e w' ⟨rfl, rfl⟩))
    go_cut [0, 81] (fun _ s81 wx => s81 = .bool (!partA form rd rs1 rs2) ∧ wx.cell? ⟨w.heap.size, 4, none⟩ = some (.int .i64 imm) ∧ wx.cell? ⟨w.heap.size, 5, none⟩ = some (.int .i64 csr) ∧ wx.cell? ⟨w.heap.size, 6, none⟩ = some (.bool aq) ∧ wx.cell? ⟨w.heap.size, 7, none⟩ = some (.bool rl) ∧ Below w.heap.size w wx ∧ w.heap.size < wx.heap.size)
    case first =>
      go_wp2_with (first | (go_at_call 29; refine (rknown_any _ _).mono ?_; rintro e w' ⟨rfl, rfl⟩) | (go_at_call 16; refine (HOF.out _).mono ?_; rintro e w' ⟨rfl, rfl⟩) | (go_at_call 30; refine (rd_any _ _).mono ?_; rintro e w' ⟨rfl, rfl⟩) | (go_at_call 31; refine (rs1_any _ _).mono ?_; rintro e w' ⟨rfl, rfl⟩) | (go_at_call 32; refine (rs2_any _ _).mono ?_; rintro e w' ⟨rfl, rfl⟩) | (go_at_call 33; first | (refine (in12 _ _ _ ?_ ?_).mono ?_; (focus (simp [go_sem]; done)); (focus (simp [go_sem]; done)); rintro e w' ⟨rfl, rfl⟩) | (refine (in14 _ _ _ ?_ ?_).mono ?_; (focus (simp [go_sem]; done)); (focus (simp [go_sem]; done)); rintro e w' ⟨rfl, rfl⟩)) | (go_at_call 34; refine (HI.out _).mono ?_; rintro e w' ⟨rfl, rfl⟩))
      all_goals
        go_meet
        refine ⟨by simp [partA, bne, *], by simp [go_sem], by simp [go_sem], by simp [go_sem], by simp [go_sem], ?_, by simp; try omega⟩
        repeat (first | assumption | exact Below.refl _ _ | apply Below.drew | apply bel_drewN | refine Below.alloc ?_ (by first | omega | (simp; done) | (simp; omega)) _)
    case rest =>
      obtain ⟨rfl, c4, c5, c6, c7, hb1, hz1⟩ := hcut
      have HB1 := hid hb1; clear hb1
      cases hq1 : partA form rd rs1 rs2 with
      | false =>
        have HR2 := hid (HR.out.trans (by rw [hq1, Bool.false_and])); clear HR
        go_wp2
        go_ret
        exact ⟨ret_bool HR2.out.symm, HB1.out⟩
      | true =>
        have HR2 := hid (HR.out.trans (by rw [hq1, Bool.true_and])); clear HR
        go_upto_region 8 with (first | (go_at_call 29; refine (rknown_any _ _).mono ?_; rintro e w' ⟨rfl, rfl⟩) | (go_at_call 16; refine (HOF.out _).mono ?_; rintro e w' ⟨rfl, rfl⟩) | (go_at_call 30; refine (rd_any _ _).mono ?_; rintro e w' ⟨rfl, rfl⟩) | (go_at_call 31; refine (rs1_any _ _).mono ?_; rintro e w' ⟨rfl, rfl⟩) | (go_at_call 32; refine (rs2_any _ _).mono ?_; rintro e w' ⟨rfl, rfl⟩) | (go_at_call 33; first | (refine (in12 _ _ _ ?_ ?_).mono ?_; (focus (simp [go_sem]; done)); (focus (simp [go_sem]; done)); rintro e w' ⟨rfl, rfl⟩) | (refine (in14 _ _ _ ?_ ?_).mono ?_; (focus (simp [go_sem]; done)); (focus (simp [go_sem]; done)); rintro e w' ⟨rfl, rfl⟩)) | (go_at_call 34; refine (HI.out _).mono ?_; rintro e w' ⟨rfl, rfl⟩))
        go_cut [0, 104] (fun _ s104 wy => s104 = .bool (!partB form csr aq rl) ∧ wy.cell? ⟨w.heap.size, 4, none⟩ = some (.int .i64 imm) ∧ Below w.heap.size w wy ∧ w.heap.size < wy.heap.size)
        case first =>
          have hbb := HB1.out
          go_wp2_with (first | (go_at_call 29; refine (rknown_any _ _).mono ?_; rintro e w' ⟨rfl, rfl⟩) | (go_at_call 16; refine (HOF.out _).mono ?_; rintro e w' ⟨rfl, rfl⟩) | (go_at_call 30; refine (rd_any _ _).mono ?_; rintro e w' ⟨rfl, rfl⟩) | (go_at_call 31; refine (rs1_any _ _).mono ?_; rintro e w' ⟨rfl, rfl⟩) | (go_at_call 32; refine (rs2_any _ _).mono ?_; rintro e w' ⟨rfl, rfl⟩) | (go_at_call 33; first | (refine (in12 _ _ _ ?_ ?_).mono ?_; (focus (simp [go_sem]; done)); (focus (simp [go_sem]; done)); rintro e w' ⟨rfl, rfl⟩) | (refine (in14 _ _ _ ?_ ?_).mono ?_; (focus (simp [go_sem]; done)); (focus (simp [go_sem]; done)); rintro e w' ⟨rfl, rfl⟩)) | (go_at_call 34; refine (HI.out _).mono ?_; rintro e w' ⟨rfl, rfl⟩))
          all_goals
            go_meet
            refine ⟨by simp [partB, bne, *], by simp [go_sem, *], ?_, by simp; try omega⟩
            repeat (first | assumption | exact Below.refl _ _ | apply Below.drew | apply bel_drewN | refine Below.alloc ?_ (by first | omega | (simp; done) | (simp; omega)) _)
        case rest =>
          obtain ⟨rfl, d4, hb2, hz2⟩ := hcut
          have HB2 := hid hb2; clear hb2
          cases hq2 : partB form csr aq rl with
          | false =>
            have HR3 := hid (HR2.out.trans (by rw [hq2, Bool.false_and])); clear HR2
            go_wp2
            go_ret
            exact ⟨ret_bool HR3.out.symm, HB2.out⟩
          | true =>
            have HR3 := hid (HR2.out.trans (by rw [hq2, Bool.true_and])); clear HR2
            go_wp2_with (first | (go_at_call 29; refine (rknown_any _ _).mono ?_; rintro e w' ⟨rfl, rfl⟩) | (go_at_call 16; refine (HOF.out _).mono ?_; rintro e w' ⟨rfl, rfl⟩) | (go_at_call 30; refine (rd_any _ _).mono ?_; rintro e w' ⟨rfl, rfl⟩) | (go_at_call 31; refine (rs1_any _ _).mono ?_; rintro e w' ⟨rfl, rfl⟩) | (go_at_call 32; refine (rs2_any _ _).mono ?_; rintro e w' ⟨rfl, rfl⟩) | (go_at_call 33; first | (refine (in12 _ _ _ ?_ ?_).mono ?_; (focus (simp [go_sem]; done)); (focus (simp [go_sem]; done)); rintro e w' ⟨rfl, rfl⟩) | (refine (in14 _ _ _ ?_ ?_).mono ?_; (focus (simp [go_sem]; done)); (focus (simp [go_sem]; done)); rintro e w' ⟨rfl, rfl⟩)) | (go_at_call 34; refine (HI.out _).mono ?_; rintro e w' ⟨rfl, rfl⟩))
            all_goals
              go_ret
              exact ⟨ret_bool (by rw [HR3.out]; simp [partC, *] <;> omega), HB2.out⟩
  · have hir : inRange ⟨op, rd, rs1, rs2, imm, csr, aq, rl⟩ = false := by
      cases h : inRange ⟨op, rd, rs1, rs2, imm, csr, aq, rl⟩ with
      | false => rfl
      | true => exact absurd (by simp [inRange] at h; omega) hin
    have HR := hid (HP.out.trans (by rw [hir, Bool.false_and])); clear hir HP
    have hrf := run_rrow1
    go_enter Try.func11, Try.ntmps11
    go_upto_region 4 with (first | (go_at_call 29; refine (rknown_any _ _).mono ?_; rintro e w' ⟨rfl, rfl⟩) | (go_at_call 16; refine (HOF.out _).mono ?_; rintro e w' ⟨rfl, rfl⟩) | (go_at_call 30; refine (rd_any _ _).mono ?_; rintro e w' ⟨rfl, rfl⟩) | (go_at_call 31; refine (rs1_any _ _).mono ?_; rintro e w' ⟨rfl, rfl⟩) | (go_at_call 32; refine (rs2_any _ _).mono ?_; rintro e w' ⟨rfl, rfl⟩) | (go_at_call 33; first | (refine (in12 _ _ _ ?_ ?_).mono ?_; (focus (simp [go_sem]; done)); (focus (simp [go_sem]; done)); rintro e w' ⟨rfl, rfl⟩) | (refine (in14 _ _ _ ?_ ?_).mono ?_; (focus (simp [go_sem]; done)); (focus (simp [go_sem]; done)); rintro e w' ⟨rfl, rfl⟩)) | (go_at_call 34; refine (HI.out _).mono ?_; rintro e w' ⟨rfl, rfl⟩))
    go_cut [0, 53] (fun _ s53 wx => s53 = .bool true ∧ Below w.heap.size w wx)
    case first =>
      go_wp2_with (first | (go_at_call 29; refine (rknown_any _ _).mono ?_; rintro e w' ⟨rfl, rfl⟩) | (go_at_call 16; refine (HOF.out _).mono ?_; rintro e w' ⟨rfl, rfl⟩) | (go_at_call 30; refine (rd_any _ _).mono ?_; rintro e w' ⟨rfl, rfl⟩) | (go_at_call 31; refine (rs1_any _ _).mono ?_; rintro e w' ⟨rfl, rfl⟩) | (go_at_call 32; refine (rs2_any _ _).mono ?_; rintro e w' ⟨rfl, rfl⟩) | (go_at_call 33; first | (refine (in12 _ _ _ ?_ ?_).mono ?_; (focus (simp [go_sem]; done)); (focus (simp [go_sem]; done)); rintro e w' ⟨rfl, rfl⟩) | (refine (in14 _ _ _ ?_ ?_).mono ?_; (focus (simp [go_sem]; done)); (focus (simp [go_sem]; done)); rintro e w' ⟨rfl, rfl⟩)) | (go_at_call 34; refine (HI.out _).mono ?_; rintro e w' ⟨rfl, rfl⟩))
      all_goals
        go_meet
        refine ⟨by first | rfl | (simp; omega), ?_⟩
        repeat (first | assumption | exact Below.refl _ _ | apply Below.drew | apply bel_drewN | refine Below.alloc ?_ (by first | omega | (simp; done) | (simp; omega)) _)
    case rest =>
      obtain ⟨rfl, hb1⟩ := hcut
      go_wp2
      go_ret
      exact ⟨ret_bool HR.out.symm, hb1⟩

end Go.Proofs.Ythifnlhbioaihaa
