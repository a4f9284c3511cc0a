/- The walks of inst.Find and inst.Width. -/
import Derived.Test.YthifnlhbioaihaaInstB
namespace Go.Proofs.Ythifnlhbioaihaa
open Go.RowKit
set_option linter.unusedVariables false
set_option linter.unusedSimpArgs false

/-- The operation of a name: the first one that has it; 0: none. -/
def IsFind (nm : ByteArray) (r : Int) : Prop :=
  (∃ k : Nat, 1 ≤ k ∧ k ≤ 98 ∧ (∀ j : Nat, 1 ≤ j → j < k → ((rowAt j).name.toList == nm.toList) = false) ∧ ((rowAt k).name.toList == nm.toList) = true ∧ r = k) ∨ ((∀ j : Nat, 1 ≤ j → j ≤ 98 → ((rowAt j).name.toList == nm.toList) = false) ∧ r = 0)

def FindPost (nm : ByteArray) (w : World) (e : Ending) (w' : World) : Prop := ∃ r, IsFind nm r ∧ e = .returned (.int .i64 r) ∧ Below w.heap.size w w'

set_option maxHeartbeats 1600000 in
theorem find_any (nm : ByteArray) (w : World) : Calls Try.prog 19 #[.string nm] w (FindPost nm w) := by
  have hrf := run_row0
  go_enter Try.func19, Try.ntmps19
  go_wp2
  go_loopw [3] (fun i wr => ∃ k : Nat, 1 ≤ k ∧ k ≤ 99 ∧ i = .int .i64 k ∧ (∀ j : Nat, 1 ≤ j → j < k → ((rowAt j).name.toList == nm.toList) = false) ∧ Below w.heap.size w wr)
    (fun i _ => 99 - (intOf i).toNat)
  case atStart => exact ⟨1, by omega, by omega, rfl, fun j h1 h2 => by omega, Below.refl _ _⟩
  case round =>
    obtain ⟨k, hk0, hk, rfl, hno, hnx⟩ := hrel
    have HNO := hid hno; clear hno
    have HNX := hid hnx; clear hnx
    by_cases hlt : k ≤ 98
    · have hidx := run_tab k (by omega) (by omega)
      generalize hrow : rowAt (k : Int) = r at *
      have HROW := hid hrow; clear hrow
      obtain ⟨rn, form, code, f3, f7⟩ := r
      dsimp only at hidx
      go_wp2_with (first | (go_at_call 27; refine (table_any _).mono ?_; rintro e w' ⟨rfl, rfl⟩))
      · go_ret
        have hc : ((rowAt k).name.toList == nm.toList) = true := by rw [HROW.out]; assumption
        exact ⟨k, .inl ⟨k, hk0, hlt, HNO.out, hc, rfl⟩, rfl, HNX.out.alloc HNX.out.size _⟩
      · have hc : ((rowAt k).name.toList == nm.toList) = false := by rw [HROW.out]; assumption
        refine ⟨⟨k + 1, by omega, by omega, by go_num, ?_, HNX.out.alloc HNX.out.size _⟩, by simp [intOf] <;> omega⟩
        intro j h1 h2
        by_cases e : j = k
        · rw [e]; exact hc
        · exact HNO.out j h1 (by omega)
    · have e : k = 99 := by omega
      subst e
      go_wp2
      go_ret
      exact ⟨0, .inr ⟨fun j h1 h2 => HNO.out j h1 (by omega), rfl⟩, rfl, HNX.out⟩

def widthB (op : Int) : Int :=
  if loadsB op then 2 ^ ((rowAt op).f3.toNat % 4) else if storesB op then 2 ^ (rowAt op).f3.toNat else if atomicsB op then 2 ^ (rowAt op).f3.toNat else 0

theorem f3_cases (op : Int) (h0 : 1 ≤ op) (h1 : op ≤ 98) : (rowAt op).f3 = 0 ∨ (rowAt op).f3 = 1 ∨ (rowAt op).f3 = 2 ∨ (rowAt op).f3 = 3 ∨ (rowAt op).f3 = 4 ∨ (rowAt op).f3 = 5 ∨ (rowAt op).f3 = 6 ∨ (rowAt op).f3 = 7 := by
  have key : ∀ i : Fin 98, (allRows.getD (i.val + 1) row0).f3 = 0 ∨ (allRows.getD (i.val + 1) row0).f3 = 1 ∨ (allRows.getD (i.val + 1) row0).f3 = 2 ∨ (allRows.getD (i.val + 1) row0).f3 = 3 ∨ (allRows.getD (i.val + 1) row0).f3 = 4 ∨ (allRows.getD (i.val + 1) row0).f3 = 5 ∨ (allRows.getD (i.val + 1) row0).f3 = 6 ∨ (allRows.getD (i.val + 1) row0).f3 = 7 := by decide +kernel
  have h := key ⟨(op - 1).toNat, by omega⟩
  have e : (op - 1).toNat + 1 = op.toNat := by omega
  simp only [e] at h
  exact h

set_option maxHeartbeats 3200000 in
theorem width_any (op : Int) (w : World) : Calls Try.prog 20 #[.int .i64 op] w fun e w' => e = .returned (.int .i64 (widthB op)) ∧ Below w.heap.size w w' := by
  have hrf := run_row3
  have hacc := Below.refl w.heap.size w
  have HL := hid (fun w => loads_any op w)
  have HS := hid (fun w => stores_any op w)
  have HA := hid (fun w => atomics_any op w)
  have HW := hid (show widthB op = if loadsB op then 2 ^ ((rowAt op).f3.toNat % 4) else if storesB op then 2 ^ (rowAt op).f3.toNat else if atomicsB op then 2 ^ (rowAt op).f3.toNat else 0 from rfl)
  by_cases hb : 1 ≤ op ∧ op ≤ 98
  · have hidx := run_tab op (by omega) hb.2
    have hf3 := f3_cases op hb.1 hb.2
    generalize rowAt op = r at *
    obtain ⟨nm, form, code, f3, f7⟩ := r
    dsimp only at *
    generalize loadsB op = bl at *
    generalize storesB op = bs at *
    generalize atomicsB op = ba at *
    have a0 : bits .and .u32 0 3 = 0 := rfl
    have a1 : bits .and .u32 1 3 = 1 := rfl
    have a2 : bits .and .u32 2 3 = 2 := rfl
    have a3 : bits .and .u32 3 3 = 3 := rfl
    have a4 : bits .and .u32 4 3 = 0 := rfl
    have a5 : bits .and .u32 5 3 = 1 := rfl
    have a6 : bits .and .u32 6 3 = 2 := rfl
    have a7 : bits .and .u32 7 3 = 3 := rfl
    rcases hf3 with rfl | rfl | rfl | rfl | rfl | rfl | rfl | rfl
    all_goals
      go_enter Try.func20, Try.ntmps20
      go_wp2_with (first | (go_at_call 22; refine (HL.out _).mono ?_; rintro e w' ⟨rfl, hb⟩; replace hacc := hacc.trans (hb.mono hacc.size); clear hb) | (go_at_call 23; refine (HS.out _).mono ?_; rintro e w' ⟨rfl, hb⟩; replace hacc := hacc.trans (hb.mono hacc.size); clear hb) | (go_at_call 25; refine (HA.out _).mono ?_; rintro e w' ⟨rfl, hb⟩; replace hacc := hacc.trans (hb.mono hacc.size); clear hb) | (go_at_call 27; refine (table_any _).mono ?_; rintro e w' ⟨rfl, rfl⟩))
      all_goals
        go_ret
        exact ⟨ret_int (by rw [HW.out]; simp [*]), by first | exact hacc | exact hacc.alloc hacc.size _⟩
  · have hk : known op = false := by simp [known]; omega
    have h1 : loadsB op = false := by simp [loadsB, hk]
    have h2 : storesB op = false := by simp [storesB, hk]
    have h3 : atomicsB op = false := by simp [atomicsB, hk]
    rw [h1] at HL; rw [h2] at HS; rw [h3] at HA
    clear h1 h2 h3 hk
    go_enter Try.func20, Try.ntmps20
    go_wp2_with (first | (go_at_call 22; refine (HL.out _).mono ?_; rintro e w' ⟨rfl, hb⟩; replace hacc := hacc.trans (hb.mono hacc.size); clear hb) | (go_at_call 23; refine (HS.out _).mono ?_; rintro e w' ⟨rfl, hb⟩; replace hacc := hacc.trans (hb.mono hacc.size); clear hb) | (go_at_call 25; refine (HA.out _).mono ?_; rintro e w' ⟨rfl, hb⟩; replace hacc := hacc.trans (hb.mono hacc.size); clear hb))
    go_ret
    have hk : known op = false := by simp [known]; omega
    exact ⟨ret_int (by rw [HW.out]; simp [loadsB, storesB, atomicsB, hk]), hacc⟩

end Go.Proofs.Ythifnlhbioaihaa
