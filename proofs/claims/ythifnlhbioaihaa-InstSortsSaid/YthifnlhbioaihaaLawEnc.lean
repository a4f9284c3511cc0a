/- The walk of vireolaw03.InstEncodes: it answers true. -/
import Derived.Test.YthifnlhbioaihaaAwake3
import Derived.Test.YthifnlhbioaihaaPureD
namespace Go.Proofs.Ythifnlhbioaihaa
open Go.RowKit
set_option linter.unusedVariables false
set_option linter.unusedSimpArgs false

theorem cells8 {w wc : World} {T : TypeId} {a0 a1 a2 a3 a4 a5 a6 a7 : Value} (h : Below (w.heap.size + 1) (w.alloc (.cells #[a0, a1, a2, a3, a4, a5, a6, a7] T)) wc) :
    ∀ j, wc.cell? ⟨w.heap.size, j, none⟩ = #[a0, a1, a2, a3, a4, a5, a6, a7][j]? := fun j => (h.cell (by simp)).trans (World.cell?_alloc_new _ _ _ _)

theorem below_step {w wc w' : World} {o : Obj} (h : Below (w.heap.size + 1) (w.alloc o) wc) (hb : Below wc.heap.size wc w') : Below (w.heap.size + 1) (w.alloc o) w' :=
  h.trans (hb.mono (by have := h.size; simp at this; exact this))

theorem below_out {w wc : World} {o : Obj} (h : Below (w.heap.size + 1) (w.alloc o) wc) : Below w.heap.size w wc :=
  ((Below.refl _ _).alloc (Nat.le_refl _) _).trans (h.mono (by omega))

theorem rright_any (x : Ins) (w : World) :
    Calls Try.prog 11 #[.agg #[.int .i64 x.op, .int .i64 x.rd, .int .i64 x.rs1, .int .i64 x.rs2, .int .i64 x.imm, .int .i64 x.csr, .bool x.aq, .bool x.rl]] w fun e w' => e = .returned (.bool (rright x)) ∧ Below w.heap.size w w' := by
  cases hk : known x.op with
  | false =>
    have e : rright x = false := by simp [rright, hk]
    rw [e]
    exact rright_unknown x w hk
  | true =>
    have hb : 1 ≤ x.op ∧ x.op ≤ 98 := by simpa [known] using hk
    have e : rright x = rrightBy (rowAt x.op).form x := by simp [rright, hk]
    rw [e]
    exact rright_known x w hb.1 hb.2

theorem or32_range (x : Ins) : 0 ≤ wordOf x ∧ wordOf x < 4294967296 := by
  unfold wordOf or32 bits
  simp only [IntKind.wrap_u32]
  omega

set_option maxHeartbeats 4000000 in
theorem law_encodes (x : Ins) (w : World) :
    Calls Try.prog 3 #[.agg #[.int .i64 x.op, .int .i64 x.rd, .int .i64 x.rs1, .int .i64 x.rs2, .int .i64 x.imm, .int .i64 x.csr, .bool x.aq, .bool x.rl]] w fun e w' => e = .returned (.bool true) ∧ Below w.heap.size w w' := by
  have HE := hid (fun w => encode_any x w)
  have HI := hid (fun w => right_any x w)
  have HR := hid (fun w => rright_any x w)
  rw [← right_eq] at HR
  cases hr : right x with
  | false =>
    rw [hr] at HE HI HR
    have e30 : errOf false = 30 := rfl
    rw [e30] at HE HI
    clear hr e30
    simp only [Bool.false_eq_true, ↓reduceIte] at HE
    obtain ⟨op, rd, rs1, rs2, imm, csr, aq, rl⟩ := x
    dsimp only at *
    have hacc := Below.refl (w.heap.size + 1) (w.alloc (.cells #[.int .i64 op, .int .i64 rd, .int .i64 rs1, .int .i64 rs2, .int .i64 imm, .int .i64 csr, .bool aq, .bool rl] 23))
    go_enter Try.func3, Try.ntmps3
    go_wp2_with (first | (go_at_call 9; refine (awake_any _).mono ?_; rintro e w1 ⟨rfl, hb⟩; replace hacc := below_step hacc hb; clear hb; have hc1 := cells8 hacc) | (go_at_call 10; refine (HE.out _).mono ?_; rintro e w2 ⟨rfl, hb⟩; replace hacc := below_step hacc hb; clear hb hc1; have hc1 := cells8 hacc) | (go_at_call 11; refine (HR.out _).mono ?_; rintro e w3 ⟨rfl, hb⟩; replace hacc := below_step hacc hb; clear hb hc1; have hc1 := cells8 hacc) | (go_at_call 12; refine (HI.out _).mono ?_; rintro e w4 ⟨rfl, hb⟩; replace hacc := below_step hacc hb; clear hb hc1; have hc1 := cells8 hacc))
    go_ret
    exact ⟨rfl, below_out hacc⟩
  | true =>
    have hk : known x.op = true := by simp [right] at hr; exact hr.1
    have hb : 1 ≤ x.op ∧ x.op ≤ 98 := by simpa [known] using hk
    have hrb : rightBy (partsOf (rowAt x.op).form) x = true := by simp [right] at hr; exact hr.2
    have hin : inRange x = true := by
      have h := hrb
      rw [rightBy_eq _ (form_ok x.op hb.1 hb.2)] at h
      simp only [rrightBy, Bool.and_eq_true] at h
      exact h.1
    have HW := hid (fun w => rword_any x w hb.1 hb.2 hin)
    rw [← word_eq x hb.1 hb.2 hrb] at HW
    rw [hr] at HE HI HR
    have hv := or32_range x
    rw [if_pos rfl, show errOf true = 0 from rfl] at HE
    rw [show errOf true = 0 from rfl] at HI
    clear hrb hin hk hb hr
    generalize wordOf x = v at *
    obtain ⟨v0, v1⟩ := hv
    obtain ⟨op, rd, rs1, rs2, imm, csr, aq, rl⟩ := x
    dsimp only at *
    have hacc := Below.refl (w.heap.size + 1) (w.alloc (.cells #[.int .i64 op, .int .i64 rd, .int .i64 rs1, .int .i64 rs2, .int .i64 imm, .int .i64 csr, .bool aq, .bool rl] 23))
    go_enter Try.func3, Try.ntmps3
    go_wp2_with (first | (go_at_call 9; refine (awake_any _).mono ?_; rintro e w1 ⟨rfl, hb⟩; replace hacc := below_step hacc hb; clear hb; have hc1 := cells8 hacc) | (go_at_call 10; refine (HE.out _).mono ?_; rintro e w2 ⟨rfl, hb⟩; replace hacc := below_step hacc hb; clear hb hc1; have hc1 := cells8 hacc) | (go_at_call 11; refine (HR.out _).mono ?_; rintro e w3 ⟨rfl, hb⟩; replace hacc := below_step hacc hb; clear hb hc1; have hc1 := cells8 hacc) | (go_at_call 12; refine (HI.out _).mono ?_; rintro e w4 ⟨rfl, hb⟩; replace hacc := below_step hacc hb; clear hb hc1; have hc1 := cells8 hacc) | (go_at_call 13; refine (HW.out _).mono ?_; rintro e w5 ⟨rfl, hb⟩; replace hacc := below_step hacc hb; clear hb hc1; have hc1 := cells8 hacc))
    go_ret
    exact ⟨ret_bool (by simp), below_out hacc⟩

end Go.Proofs.Ythifnlhbioaihaa
