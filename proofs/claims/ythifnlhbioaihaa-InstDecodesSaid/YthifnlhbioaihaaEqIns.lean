/- Two instructions compared; inst.Decode of any word, and of an instruction's own word. -/
import Derived.Test.YthifnlhbioaihaaAwake3
import Derived.Test.YthifnlhbioaihaaPureI
import Derived.Laws.StructEq
namespace Go.Proofs.Ythifnlhbioaihaa
open Go.RowKit
set_option linter.unusedVariables false
set_option linter.unusedSimpArgs false

theorem ins_guard : Try.prog.eqGuardType Try.prog.depth 23 = false := by kernel_rfl
theorem ins_held : Try.prog.stoodInHeld 23 = false := by kernel_rfl
theorem ins_flds : Try.prog.underlying 23 = some (.struct (Try.prog.fieldsOf 23)) := by kernel_rfl

theorem eq_ins (x y : Ins) (w : World) : (binOp .eql 23 (.agg #[.int .i64 x.op, .int .i64 x.rd, .int .i64 x.rs1, .int .i64 x.rs2, .int .i64 x.imm, .int .i64 x.csr, .bool x.aq, .bool x.rl]) (.agg #[.int .i64 y.op, .int .i64 y.rd, .int .i64 y.rs1, .int .i64 y.rs2, .int .i64 y.imm, .int .i64 y.csr, .bool y.aq, .bool y.rl])).run Try.prog w = .ok (.bool (decide (x = y))) w := by
  obtain ⟨a0, a1, a2, a3, a4, a5, a6, a7⟩ := x
  obtain ⟨b0, b1, b2, b3, b4, b5, b6, b7⟩ := y
  rw [run_eql_struct, run_equalIn_struct _ _ _ _ _ ins_flds ins_held]
  simp [Program.fieldsOf, Try.underlying23, Op.eqFields, go_sem]
  repeat' split <;> simp_all

theorem reads_own (x : Ins) (hr : right x = true) : ∃ W : Nat, W < 4294967296 ∧ wordOf x = W ∧ hit W (rowAt x.op) = true ∧ fieldsOf x.op (rowAt x.op).form W = x ∧ 1 ≤ x.op ∧ x.op ≤ 98 := by
  have hk : known x.op = true := by simp [right] at hr; exact hr.1
  have hb : 1 ≤ x.op ∧ x.op ≤ 98 := by simpa [known] using hk
  have hrb : rightBy (partsOf (rowAt x.op).form) x = true := by simp [right] at hr; exact hr.2
  have he := word_eq x hb.1 hb.2 hrb
  have hv : 0 ≤ wordOf x := by unfold wordOf or32 bits; simp only [IntKind.wrap_u32]; omega
  obtain ⟨W, hW⟩ := Int.eq_ofNat_of_zero_le hv
  obtain ⟨h1, h2, h3⟩ := word_reads x hb.1 hb.2 hrb W (he ▸ hW)
  exact ⟨W, h3, hW, (hit_iff x.op hb.1 hb.2 W h3).2 h1, h2, hb.1, hb.2⟩

theorem decoded_own (x : Ins) (hr : right x = true) (a : Ins) (c : Int) (hd : Decoded (wordOf x) a c) : a = x ∧ c = 0 := by
  obtain ⟨W, hw, hW, hh, hf, h1, h2⟩ := reads_own x hr
  rw [hW] at hd
  obtain ⟨n, hn⟩ := Int.eq_ofNat_of_zero_le (show 0 ≤ x.op by omega)
  rw [hn] at hh hf h1 h2
  rcases hd with ⟨k, k1, k2, _, k3, rfl, rfl⟩ | ⟨hno, _, _⟩
  · obtain rfl := hit_one W hw k n k1 k2 (by omega) (by omega) k3 hh
    exact ⟨hf, rfl⟩
  · have := hno n (by omega) (by omega)
    rw [hh] at this; cases this

theorem decoded_whose (W : Nat) (hw : W < 4294967296) (a : Ins) (c : Int) (hd : Decoded W a c) : (c = 0 ∧ right a = true ∧ wordOf a = W) ∨ (c = 31 ∧ a = zeroIns) := by
  rcases hd with ⟨k, k1, k2, _, k3, rfl, rfl⟩ | ⟨_, rfl, rfl⟩
  · left
    have hp := (hit_iff k (by omega) (by omega) W hw).1 k3
    obtain ⟨g1, g2⟩ := word_whose k (by omega) (by omega) W hw hp
    have ho : (fieldsOf k (rowAt k).form W).op = k := rfl
    refine ⟨rfl, ?_, ?_⟩
    · unfold right
      rw [ho, g1]
      simp [known]; omega
    · rw [word_eq _ (by rw [ho]; omega) (by rw [ho]; omega) (by rw [ho]; exact g1), g2]
  · exact .inr ⟨rfl, rfl⟩

theorem unlike (x y : Ins) (hx : right x = true) (hy : right y = true) (he : wordOf x = wordOf y) : x = y := by
  obtain ⟨W, hw, hW, hh, hf, h1, h2⟩ := reads_own x hx
  obtain ⟨V, hv, hV, gh, gf, g1, g2⟩ := reads_own y hy
  obtain rfl : W = V := by omega
  obtain ⟨n, hn⟩ := Int.eq_ofNat_of_zero_le (show 0 ≤ x.op by omega)
  obtain ⟨m, hm⟩ := Int.eq_ofNat_of_zero_le (show 0 ≤ y.op by omega)
  rw [hn] at hh hf h1 h2
  rw [hm] at gh gf g1 g2
  obtain rfl := hit_one W hw n m (by omega) (by omega) (by omega) (by omega) hh gh
  rw [← hf, ← gf]

end Go.Proofs.Ythifnlhbioaihaa
