/- The walk of vireolaw03.awake; inst.Encode and inst.Right, of any instruction. -/
import Derived.Test.YthifnlhbioaihaaDec
namespace Go.Proofs.Ythifnlhbioaihaa
open Go.RowKit
set_option linter.unusedVariables false
set_option linter.unusedSimpArgs false

theorem parts_by (f : Int) (hf : IsForm f) : (partsOf f).imm = true → 0 < (partsOf f).by_ := by
  rcases hf with rfl | rfl | rfl | rfl | rfl | rfl | rfl | rfl | rfl | rfl | rfl | rfl | rfl | rfl | rfl | rfl <;> decide

set_option maxHeartbeats 1000000 in
theorem right_unknown (x : Ins) (w : World) (h : known x.op = false) :
    Calls Try.prog 12 #[.agg #[.int .i64 x.op, .int .i64 x.rd, .int .i64 x.rs1, .int .i64 x.rs2, .int .i64 x.imm, .int .i64 x.csr, .bool x.aq, .bool x.rl]] w fun e w' => e = .returned (.int .i64 30) ∧ Below w.heap.size w w' := by
  have HK := hid (show ∀ w, Calls Try.prog 35 #[.int .i64 x.op] w fun e w' => e = .returned (.bool (known x.op)) ∧ w = w' from fun w => known_any x.op w)
  rw [h] at HK
  go_enter Try.func12, Try.ntmps12
  go_wp2_with (go_at_call 35; refine (HK.out _).mono ?_; rintro e w' ⟨rfl, rfl⟩)
  go_ret
  exact ⟨rfl, (Below.refl _ _).alloc (Nat.le_refl _) _⟩

theorem right_any (x : Ins) (w : World) :
    Calls Try.prog 12 #[.agg #[.int .i64 x.op, .int .i64 x.rd, .int .i64 x.rs1, .int .i64 x.rs2, .int .i64 x.imm, .int .i64 x.csr, .bool x.aq, .bool x.rl]] w fun e w' => e = .returned (.int .i64 (errOf (right x))) ∧ Below w.heap.size w w' := by
  cases hk : known x.op with
  | false =>
    have e : right x = false := by simp [right, hk]
    rw [e]
    exact right_unknown x w hk
  | true =>
    have hb : 1 ≤ x.op ∧ x.op ≤ 98 := by simpa [known] using hk
    exact right_known x w hb.1 hb.2 (parts_by _ (form_ok x.op hb.1 hb.2))

theorem encode_any (x : Ins) (w : World) :
    Calls Try.prog 10 #[.agg #[.int .i64 x.op, .int .i64 x.rd, .int .i64 x.rs1, .int .i64 x.rs2, .int .i64 x.imm, .int .i64 x.csr, .bool x.aq, .bool x.rl]] w fun e w' => e = .returned (.tuple #[.int .u32 (if right x then wordOf x else 0), .int .i64 (errOf (right x))]) ∧ Below w.heap.size w w' := by
  cases hr : right x with
  | false => exact encode_bad x w hr (right_any x)
  | true =>
    have hk : known x.op = true := by simp [right] at hr; exact hr.1
    have hb : 1 ≤ x.op ∧ x.op ≤ 98 := by simpa [known] using hk
    exact encode_good x w hb.1 hb.2 hr (form_ok x.op hb.1 hb.2) (right_any x)

theorem nohit_zero (k : Nat) (h0 : 1 ≤ k) (h1 : k ≤ 98) : hit 0 (rowAt k) = false := by
  have key : ∀ i : Fin 98, hit 0 (allRows.getD (i.val + 1) row0) = false := by decide +kernel
  have h := key ⟨k - 1, by omega⟩
  have e : k - 1 + 1 = k := by omega
  simp only [e] at h
  exact h

set_option maxHeartbeats 1000000 in
theorem awake_any (w : World) : Calls Try.prog 9 #[] w fun e w' => e = .returned (.bool true) ∧ Below w.heap.size w w' := by
  have e1 : right ⟨22, 1, 0, 0, 1, 0, false, false⟩ = true := by decide +kernel
  have e2 : wordOf ⟨22, 1, 0, 0, 1, 0, false, false⟩ = 1048723 := by decide +kernel
  have e3 : right ⟨52, 0, 0, 0, 0, 0, false, false⟩ = true := by decide +kernel
  have e4 : wordOf ⟨52, 0, 0, 0, 0, 0, false, false⟩ = 115 := by decide +kernel
  have E1 := hid (fun w => encode_any ⟨22, 1, 0, 0, 1, 0, false, false⟩ w)
  have E2 := hid (fun w => encode_any ⟨52, 0, 0, 0, 0, 0, false, false⟩ w)
  rw [e1, e2, if_pos rfl, show errOf true = 0 from rfl] at E1
  rw [e3, e4, if_pos rfl, show errOf true = 0 from rfl] at E2
  clear e1 e2 e3 e4
  have hacc := Below.refl w.heap.size w
  go_enter Try.func9, Try.ntmps9
  go_wp2_with fail
  refine (E1.out _).mono ?_
  rintro e w1 ⟨rfl, hb⟩
  replace hacc := hacc.trans (hb.mono hacc.size); clear hb
  go_wp2_with fail
  refine (E2.out _).mono ?_
  rintro e w2 ⟨rfl, hb⟩
  replace hacc := hacc.trans (hb.mono hacc.size); clear hb
  go_wp2_with fail
  refine (decode_any 0 _ (by decide) (by decide)).mono ?_
  rintro e w3 ⟨a, c, hd, rfl, hb⟩
  replace hacc := hacc.trans (hb.mono hacc.size); clear hb
  have hc : c = 31 := by
    rcases hd with ⟨k, h1, h2, _, h3, _⟩ | ⟨_, _, h⟩
    · rw [nohit_zero k h1 h2] at h3; cases h3
    · exact h
  subst hc
  clear hd
  obtain ⟨a0, a1, a2, a3, a4, a5, a6, a7⟩ := a
  dsimp only [Ins.v]
  go_wp2_with fail
  go_ret
  exact ⟨rfl, hacc.alloc hacc.size _⟩

end Go.Proofs.Ythifnlhbioaihaa
