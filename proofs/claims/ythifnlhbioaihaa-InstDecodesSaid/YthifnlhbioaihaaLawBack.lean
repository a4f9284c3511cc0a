/- The walks of vireolaw03.InstBack, InstUnlike, InstWords: each answers true. -/
import Derived.Test.YthifnlhbioaihaaEqIns
import Derived.Test.YthifnlhbioaihaaLawEnc
namespace Go.Proofs.Ythifnlhbioaihaa
open Go.RowKit
set_option linter.unusedVariables false
set_option linter.unusedSimpArgs false

set_option maxHeartbeats 4000000 in
theorem law_back (x : Ins) (w : World) :
    Calls Try.prog 5 #[.agg #[.int .i64 x.op, .int .i64 x.rd, .int .i64 x.rs1, .int .i64 x.rs2, .int .i64 x.imm, .int .i64 x.csr, .bool x.aq, .bool x.rl]] w fun e w' => e = .returned (.bool true) ∧ Below w.heap.size w w' := by
  have HE := hid (fun w => encode_any x w)
  have HI := hid (fun w => right_any x w)
  cases hr : right x with
  | false =>
    rw [hr] at HE HI
    have e30 : errOf false = 30 := rfl
    rw [e30] at HE HI
    clear hr e30
    simp only [Bool.false_eq_true, ↓reduceIte] at HE
    obtain ⟨op, rd, rs1, rs2, imm, csr, aq, rl⟩ := x
    dsimp only at *
    have hacc := Below.refl (w.heap.size + 1) (w.alloc (.cells #[.int .i64 op, .int .i64 rd, .int .i64 rs1, .int .i64 rs2, .int .i64 imm, .int .i64 csr, .bool aq, .bool rl] 23))
    go_enter Try.func5, Try.ntmps5
    go_wp2_with (first | (go_at_call 9; refine (awake_any _).mono ?_; rintro e w1 ⟨rfl, hb⟩; replace hacc := below_step hacc hb; clear hb; have hc1 := cells8 hacc) | (go_at_call 10; refine (HE.out _).mono ?_; rintro e w2 ⟨rfl, hb⟩; replace hacc := below_step hacc hb; clear hb hc1; have hc1 := cells8 hacc) | (go_at_call 12; refine (HI.out _).mono ?_; rintro e w2 ⟨rfl, hb⟩; replace hacc := below_step hacc hb; clear hb hc1; have hc1 := cells8 hacc))
    go_ret
    exact ⟨rfl, below_out hacc⟩
  | true =>
    have HD := hid (fun a c => decoded_own x hr a c)
    rw [hr] at HE
    have hv := or32_range x
    rw [if_pos rfl, show errOf true = 0 from rfl] at HE
    clear HI hr
    have HQ := hid (fun w => eq_ins x x w)
    simp only [decide_true] at HQ
    generalize wordOf x = v at *
    obtain ⟨v0, v1⟩ := hv
    obtain ⟨op, rd, rs1, rs2, imm, csr, aq, rl⟩ := x
    dsimp only at *
    have hacc := Below.refl (w.heap.size + 1) (w.alloc (.cells #[.int .i64 op, .int .i64 rd, .int .i64 rs1, .int .i64 rs2, .int .i64 imm, .int .i64 csr, .bool aq, .bool rl] 23))
    have hq := HQ.out
    have hg := ins_guard
    go_enter Try.func5, Try.ntmps5
    go_wp2_with (first | (go_at_call 9; refine (awake_any _).mono ?_; rintro e w1 ⟨rfl, hb⟩; replace hacc := below_step hacc hb; clear hb; have hc1 := cells8 hacc) | (go_at_call 10; refine (HE.out _).mono ?_; rintro e w2 ⟨rfl, hb⟩; replace hacc := below_step hacc hb; clear hb hc1; have hc1 := cells8 hacc) | (go_at_call 14; refine (decode_any _ _ v0 v1).mono ?_; rintro e w2 ⟨a, c, hd, rfl, hb⟩; obtain ⟨rfl, rfl⟩ := HD.out _ _ hd; clear hd; dsimp only [Ins.v]; replace hacc := below_step hacc hb; clear hb hc1; have hc1 := cells8 hacc; have hz : w.heap.size < w2.heap.size := (by have := hacc.size; simp at this; omega)))
    go_ret
    exact ⟨rfl, (below_out hacc).alloc (by have := hacc.size; simp at this; omega) _⟩

theorem cells8a {w wc : World} {T : TypeId} {o : Obj} {a0 a1 a2 a3 a4 a5 a6 a7 : Value} (h : Below (w.heap.size + 2) ((w.alloc (.cells #[a0, a1, a2, a3, a4, a5, a6, a7] T)).alloc o) wc) :
    ∀ j, wc.cell? ⟨w.heap.size, j, none⟩ = #[a0, a1, a2, a3, a4, a5, a6, a7][j]? := fun j => (h.cell (by simp)).trans ((by simp : ((w.alloc (.cells #[a0, a1, a2, a3, a4, a5, a6, a7] T)).alloc o).cell? ⟨w.heap.size, j, none⟩ = (w.alloc (.cells #[a0, a1, a2, a3, a4, a5, a6, a7] T)).cell? ⟨w.heap.size, j, none⟩).trans (World.cell?_alloc_new _ _ _ _))
theorem cells8b {w wc : World} {T : TypeId} {o : Obj} {a0 a1 a2 a3 a4 a5 a6 a7 : Value} (h : Below (w.heap.size + 2) ((w.alloc o).alloc (.cells #[a0, a1, a2, a3, a4, a5, a6, a7] T)) wc) :
    ∀ j, wc.cell? ⟨w.heap.size + 1, j, none⟩ = #[a0, a1, a2, a3, a4, a5, a6, a7][j]? := fun j => by
  have e : w.heap.size + 1 = (w.alloc o).heap.size := by simp
  rw [e]
  exact (h.cell (by simp)).trans (World.cell?_alloc_new _ _ _ _)
theorem below_step2 {w wc w' : World} {o o' : Obj} (h : Below (w.heap.size + 2) ((w.alloc o).alloc o') wc) (hb : Below wc.heap.size wc w') : Below (w.heap.size + 2) ((w.alloc o).alloc o') w' :=
  h.trans (hb.mono (by have := h.size; simp at this; omega))
theorem below_out2 {w wc : World} {o o' : Obj} (h : Below (w.heap.size + 2) ((w.alloc o).alloc o') wc) : Below w.heap.size w wc :=
  (((Below.refl _ _).alloc (Nat.le_refl _) _).alloc (by simp) _).trans (h.mono (by omega))

set_option maxHeartbeats 4000000 in
theorem law_unlike (x y : Ins) (w : World) :
    Calls Try.prog 7 #[.agg #[.int .i64 x.op, .int .i64 x.rd, .int .i64 x.rs1, .int .i64 x.rs2, .int .i64 x.imm, .int .i64 x.csr, .bool x.aq, .bool x.rl], .agg #[.int .i64 y.op, .int .i64 y.rd, .int .i64 y.rs1, .int .i64 y.rs2, .int .i64 y.imm, .int .i64 y.csr, .bool y.aq, .bool y.rl]] w fun e w' => e = .returned (.bool true) ∧ Below w.heap.size w w' := by
  have HE := hid (fun w => encode_any x w)
  have HF := hid (fun w => encode_any y w)
  have HU := hid (fun hx hy => unlike x y hx hy)
  have HQ := hid (fun w => eq_ins x y w)
  have hn0 : errOf true = 0 := rfl
  have hn30 : errOf false = 30 := rfl
  have HV := hid (fun he : x = y => congrArg wordOf he)
  generalize hq : decide (x = y) = q at *
  have HQQ := hid hq; clear hq
  generalize wordOf x = v at *
  generalize wordOf y = u at *
  obtain ⟨x0, x1, x2, x3, x4, x5, x6, x7⟩ := x
  obtain ⟨y0, y1, y2, y3, y4, y5, y6, y7⟩ := y
  have HX := hid (show right ⟨x0, x1, x2, x3, x4, x5, x6, x7⟩ = right ⟨x0, x1, x2, x3, x4, x5, x6, x7⟩ from rfl)
  have HY := hid (show right ⟨y0, y1, y2, y3, y4, y5, y6, y7⟩ = right ⟨y0, y1, y2, y3, y4, y5, y6, y7⟩ from rfl)
  generalize hrx : right ⟨x0, x1, x2, x3, x4, x5, x6, x7⟩ = rx at *
  generalize hry : right ⟨y0, y1, y2, y3, y4, y5, y6, y7⟩ = ry at *
  have HRX := hid hrx; have HRY := hid hry; clear hrx hry HX HY
  dsimp only at HE HF HQ ⊢
  cases rx <;> cases ry
  all_goals
    simp only [hn0, hn30, Bool.false_eq_true, ↓reduceIte] at HE HF
    clear hn0 hn30
    have hacc := Below.refl (w.heap.size + 2) ((w.alloc (.cells #[.int .i64 x0, .int .i64 x1, .int .i64 x2, .int .i64 x3, .int .i64 x4, .int .i64 x5, .bool x6, .bool x7] 23)).alloc (.cells #[.int .i64 y0, .int .i64 y1, .int .i64 y2, .int .i64 y3, .int .i64 y4, .int .i64 y5, .bool y6, .bool y7] 23))
    have hqq := HQ.out
    have hg := ins_guard
    go_enter Try.func7, Try.ntmps7
    go_wp2_with fail
    refine (awake_any _).mono ?_
    rintro e w1 ⟨rfl, hb⟩
    replace hacc := below_step2 hacc hb
    clear hb
    have hc1 := cells8a hacc
    have hc2 := cells8b hacc
    go_wp2_with fail
    refine (HE.out _).mono ?_
    rintro e w2 ⟨rfl, hb⟩
    replace hacc := below_step2 hacc hb
    clear hb hc1 hc2
    have hc1 := cells8a hacc
    have hc2 := cells8b hacc
    go_wp2_with fail
    refine (HF.out _).mono ?_
    rintro e w3 ⟨rfl, hb⟩
    replace hacc := below_step2 hacc hb
    clear hb hc1 hc2
    have hc1 := cells8a hacc
    have hc2 := cells8b hacc
    go_wp2_with fail
    go_ret
    refine ⟨ret_bool ?_, below_out2 hacc⟩
    first | rfl | (rw [← HQQ.out, beq_iff_eq, Bool.eq_iff_iff, beq_iff_eq, decide_eq_true_eq]; exact ⟨HU.out (by simp) (by simp), HV.out⟩)

set_option maxHeartbeats 4000000 in
theorem law_words (x : Int) (w : World) (h0 : 0 ≤ x) (h1 : x < 4294967296) :
    Calls Try.prog 6 #[.int .u32 x] w fun e w' => e = .returned (.bool true) ∧ Below w.heap.size w w' := by
  have hacc := Below.refl w.heap.size w
  have hg := ins_guard
  have HQ := hid (fun w => eq_ins zeroIns zeroIns w)
  simp only [decide_true, zeroIns] at HQ
  have hq := HQ.out
  have hn0 : errOf true = 0 := rfl
  go_enter Try.func6, Try.ntmps6
  go_wp2_with fail
  refine (awake_any _).mono ?_
  rintro e w1 ⟨rfl, hb⟩
  replace hacc := hacc.trans (hb.mono hacc.size)
  clear hb
  go_wp2_with fail
  refine (decode_any x _ h0 h1).mono ?_
  rintro e w2 ⟨a, c, hd, rfl, hb⟩
  replace hacc := hacc.trans (hb.mono hacc.size)
  clear hb
  obtain ⟨W, rfl⟩ := Int.eq_ofNat_of_zero_le h0
  rcases decoded_whose W (by omega) a c hd with ⟨rfl, hr, hv⟩ | ⟨rfl, rfl⟩
  · have HE := hid (fun w => encode_any a w)
    rw [hr, hv] at HE
    simp only [hn0, ↓reduceIte] at HE
    clear hr hv hd
    obtain ⟨a0, a1, a2, a3, a4, a5, a6, a7⟩ := a
    dsimp only [Ins.v] at *
    go_wp2_with (first | (go_at_call 10; refine (HE.out _).mono ?_; rintro e w3 ⟨rfl, hb⟩))
    go_ret
    exact ⟨ret_bool (by simp), (hacc.alloc hacc.size _).trans (hb.mono (by have := hacc.size; simp; omega))⟩
  · dsimp only [Ins.v, zeroIns] at *
    go_wp2_with fail
    go_ret
    exact ⟨rfl, hacc.alloc hacc.size _⟩

end Go.Proofs.Ythifnlhbioaihaa
