/- The walk of vireoref03.Width. -/
import Derived.Test.YthifnlhbioaihaaRefC
import Derived.Test.YthifnlhbioaihaaInstC
namespace Go.Proofs.Ythifnlhbioaihaa
open Go.RowKit
set_option linter.unusedVariables false
set_option linter.unusedSimpArgs false

def rwidth (r : Row) : Int := if r.form == 5 then 2 ^ (r.f3.toNat % 4) else if [6, 14, 15].any (· == r.form) then 2 ^ r.f3.toNat else 0

theorem in6 (f : Int) (g : Nat) (w : World) (c0 : w.cell? ⟨g, 0, none⟩ = some (.int .i64 6)) (c1 : w.cell? ⟨g, 1, none⟩ = some (.int .i64 14)) (c2 : w.cell? ⟨g, 2, none⟩ = some (.int .i64 15)) :
    Calls Try.prog 33 #[.int .i64 f, .slice (some ⟨g, 0, none⟩) 3 3] w fun e w' => e = .returned (.bool ([6, 14, 15].any (· == f))) ∧ w = w' :=
  in_any f g 3 [6, 14, 15] w rfl (by decide) (by intro j h; match j, h with | 0, _ => exact c0 | 1, _ => exact c1 | 2, _ => exact c2 | j + 3, h => simp at h; omega)

theorem pow_bd (j : Nat) (h : j ≤ 7) : (0 : Int) < 2 ^ j ∧ (2 : Int) ^ j ≤ 128 := by
  have h1 : 2 ^ j ≤ 2 ^ 7 := Nat.pow_le_pow_right (by omega) h
  have h2 : 0 < 2 ^ j := Nat.two_pow_pos j
  rw [pow_toNat]; omega

set_option maxHeartbeats 4000000 in
theorem rwidth_row (op : Int) (r : Row) (w : World) (hf : 0 ≤ r.f3 ∧ r.f3 ≤ 7)
    (HOF : ∀ w, Calls Try.prog 16 #[.int .i64 op] w fun e w' => e = .returned (.agg #[.string r.name, .int .i64 r.form, .int .i64 r.code, .int .i64 r.f3, .int .i64 r.f7]) ∧ Below w.heap.size w w') :
    Calls Try.prog 21 #[.int .i64 op] w fun e w' => e = .returned (.int .i64 (rwidth r)) ∧ Below w.heap.size w w' := by
  have HO := hid HOF; clear HOF
  have HP := hid (fun j h => pow_bd j h)
  obtain ⟨nm, form, code, f3, f7⟩ := r
  dsimp only at hf HO
  obtain ⟨f0, f1⟩ := hf
  cases h5 : (form == 5) with
  | true =>
    obtain rfl : form = 5 := by simpa using h5
    have HT := hid (show f3.tmod 4 = f3 % 4 from Int.tmod_eq_emod_of_nonneg f0)
    go_enter Try.func21, Try.ntmps21
    go_wp2_with (first | (go_at_call 16; refine (HO.out _).mono ?_; rintro e w1 ⟨rfl, hb⟩))
    go_loopw [4, 5] (fun n i wr => ∃ j : Nat, j ≤ (f3 % 4).toNat ∧ i = .int .i64 j ∧ n = .int .i64 (2 ^ j) ∧ w1.alloc (.cells #[.string nm, .int .i64 5, .int .i64 code, .int .i64 (f3 % 4), .int .i64 f7] 39) = wr)
      (fun _ i _ => 8 - (intOf i).toNat)
    case atStart => exact ⟨0, by omega, rfl, rfl, by simp⟩
    case round =>
      obtain ⟨j, hj, rfl, rfl, rfl⟩ := hrel
      obtain ⟨p0, p1⟩ := HP.out j (by omega)
      have hp2 : (2 : Int) ^ (j + 1) = 2 ^ j * 2 := Int.pow_succ 2 j
      by_cases hlt : j < (f3 % 4).toNat
      · have hc : decide ((j : Int) < f3 % 4) = true := by simp; omega
        go_wp2
        refine ⟨⟨j + 1, by omega, by go_num, by rw [hp2], by simp⟩, by simp [intOf] <;> omega⟩
      · have e : j = (f3 % 4).toNat := by omega
        have hc : decide ((j : Int) < f3 % 4) = false := by simp; omega
        go_wp2
        go_ret
        exact ⟨ret_int (by rw [e]; show _ = (2 : Int) ^ (f3.toNat % 4); congr 1; omega), hb.alloc hb.size _⟩
  | false =>
    cases h6 : ([6, 14, 15].any (· == form)) with
    | true =>
      go_enter Try.func21, Try.ntmps21
      go_wp2_with (first | (go_at_call 16; refine (HO.out _).mono ?_; rintro e w1 ⟨rfl, hb⟩) | (go_at_call 33; refine (in6 _ _ _ ?_ ?_ ?_).mono ?_; (focus (simp [go_sem]; done)); (focus (simp [go_sem]; done)); (focus (simp [go_sem]; done)); rw [h6]; rintro e w' ⟨rfl, rfl⟩))
      go_loopw [4, 5] (fun n i wr => ∃ j : Nat, j ≤ f3.toNat ∧ i = .int .i64 j ∧ n = .int .i64 (2 ^ j) ∧ (w1.alloc (.cells #[.string nm, .int .i64 form, .int .i64 code, .int .i64 f3, .int .i64 f7] 39)).alloc (.cells #[.int .i64 6, .int .i64 14, .int .i64 15] 3) = wr)
        (fun _ i _ => 8 - (intOf i).toNat)
      case atStart => exact ⟨0, by omega, rfl, rfl, by simp⟩
      case round =>
        obtain ⟨j, hj, rfl, rfl, rfl⟩ := hrel
        obtain ⟨p0, p1⟩ := HP.out j (by omega)
        have hp2 : (2 : Int) ^ (j + 1) = 2 ^ j * 2 := Int.pow_succ 2 j
        by_cases hlt : j < f3.toNat
        · have hc : decide ((j : Int) < f3) = true := by simp; omega
          go_wp2
          refine ⟨⟨j + 1, by omega, by go_num, by rw [hp2], by simp⟩, by simp [intOf] <;> omega⟩
        · have e : j = f3.toNat := by omega
          have hc : decide ((j : Int) < f3) = false := by simp; omega
          go_wp2
          go_ret
          exact ⟨ret_int (by rw [e]; simp only [rwidth, h5, h6, Bool.false_eq_true, ↓reduceIte]), (hb.alloc hb.size _).alloc (by have := hb.size; simp; omega) _⟩
    | false =>
      go_enter Try.func21, Try.ntmps21
      go_wp2_with (first | (go_at_call 16; refine (HO.out _).mono ?_; rintro e w1 ⟨rfl, hb⟩) | (go_at_call 33; refine (in6 _ _ _ ?_ ?_ ?_).mono ?_; (focus (simp [go_sem]; done)); (focus (simp [go_sem]; done)); (focus (simp [go_sem]; done)); rw [h6]; rintro e w' ⟨rfl, rfl⟩))
      go_ret
      exact ⟨ret_int (by simp only [rwidth, h5, h6, Bool.false_eq_true, ↓reduceIte]), (hb.alloc hb.size _).alloc (by have := hb.size; simp; omega) _⟩

theorem rwidth_any (op : Int) (w : World) : Calls Try.prog 21 #[.int .i64 op] w fun e w' => e = .returned (.int .i64 (widthB op)) ∧ Below w.heap.size w w' := by
  cases hk : known op with
  | true =>
    have hb : 1 ≤ op ∧ op ≤ 98 := by simpa [known] using hk
    have hf := f3_cases op hb.1 hb.2
    have e : widthB op = rwidth (rowAt op) := by
      unfold widthB rwidth loadsB storesB atomicsB
      rw [hk]
      generalize rowAt op = r
      simp only [Bool.true_and, List.any_cons, List.any_nil, Bool.or_false]
      by_cases g5 : r.form = 5
      · simp [g5]
      · by_cases g6 : r.form = 6
        · simp [g6]
        · by_cases g14 : r.form = 14
          · simp [g14]
          · by_cases g15 : r.form = 15
            · simp [g15]
            · simp [g5, g6, g14, g15, Ne.symm g5, Ne.symm g6, Ne.symm g14, Ne.symm g15]
    rw [e]
    exact rwidth_row op (rowAt op) w (by omega) (fun w => (of_known op w hb.1 hb.2).mono fun e w' ⟨h1, h2⟩ => ⟨h1, by rw [← h2]; exact ((Below.refl _ _).alloc (Nat.le_refl _) _).alloc (by simp) _⟩)
  | false =>
    have e : widthB op = rwidth row0 := by
      unfold widthB rwidth loadsB storesB atomicsB
      rw [hk]
      simp only [Bool.false_and, Bool.false_eq_true, ↓reduceIte]
      decide
    rw [e]
    exact rwidth_row op row0 w (by decide) (fun w => (of_unknown op w hk).mono fun e w' ⟨h1, h2⟩ => ⟨h1, by rw [← h2]; exact (Below.refl _ _).alloc (Nat.le_refl _) _⟩)

end Go.Proofs.Ythifnlhbioaihaa
