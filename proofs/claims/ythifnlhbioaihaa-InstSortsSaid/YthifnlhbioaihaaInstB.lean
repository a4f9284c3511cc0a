/- The walks of inst: Name, Find, Loads, Stores, Branches, Atomics, Systems, Width. -/
import Derived.Test.YthifnlhbioaihaaDec
namespace Go.Proofs.Ythifnlhbioaihaa
open Go.RowKit
set_option linter.unusedVariables false
set_option linter.unusedSimpArgs false

set_option maxHeartbeats 400000 in
theorem name_any (op : Int) (w : World) :
    Calls Try.prog 18 #[.int .i64 op] w fun e w' => e = .returned (.string (if known op then (rowAt op).name else ⟨#[]⟩)) ∧ Below w.heap.size w w' := by
  have HK := hid (show ∀ w, Calls Try.prog 35 #[.int .i64 op] w fun e w' => e = .returned (.bool (known op)) ∧ w = w' from fun w => known_any op w)
  cases hk : known op with
  | false =>
    go_enter Try.func18, Try.ntmps18
    go_wp2_with (go_at_call 35; refine (HK.out _).mono ?_; rintro e w' ⟨rfl, rfl⟩)
    go_ret
    exact ⟨rfl, Below.refl _ _⟩
  | true =>
    have hb : 1 ≤ op ∧ op ≤ 98 := by simpa [known] using hk
    have hidx := run_tab op (by omega) hb.2
    have hrf := run_row0
    go_enter Try.func18, Try.ntmps18
    go_wp2_with (first | (go_at_call 35; refine (HK.out _).mono ?_; rintro e w' ⟨rfl, rfl⟩) | (go_at_call 27; refine (table_any _).mono ?_; rintro e w' ⟨rfl, rfl⟩))
    go_ret
    exact ⟨rfl, (Below.refl _ _).alloc (Nat.le_refl _) _⟩

def loadsB (op : Int) : Bool := known op && (rowAt op).form == 5
def storesB (op : Int) : Bool := known op && (rowAt op).form == 6
def branchesB (op : Int) : Bool := known op && (rowAt op).form == 4
def atomicsB (op : Int) : Bool := known op && ((rowAt op).form == 15 || (rowAt op).form == 14)
def systemsB (op : Int) : Bool := known op && ((rowAt op).form == 12 || (rowAt op).form == 13)

set_option maxHeartbeats 800000 in
theorem loads_any (op : Int) (w : World) :
    Calls Try.prog 22 #[.int .i64 op] w fun e w' => e = .returned (.bool (loadsB op)) ∧ Below w.heap.size w w' := by
  have HK := hid (show ∀ w, Calls Try.prog 35 #[.int .i64 op] w fun e w' => e = .returned (.bool (known op)) ∧ w = w' from fun w => known_any op w)
  cases hk : known op with
  | false =>
    go_enter Try.func22, Try.ntmps22
    go_wp2_with (go_at_call 35; refine (HK.out _).mono ?_; rintro e w' ⟨rfl, rfl⟩)
    go_ret
    exact ⟨ret_bool (by simp [loadsB, hk]), Below.refl _ _⟩
  | true =>
    have hb : 1 ≤ op ∧ op ≤ 98 := by simpa [known] using hk
    have hidx := run_tab op (by omega) hb.2
    have hrf := run_row1
    have HD := hid (show loadsB op = (known op && _) from rfl)
    rw [hk] at HD
    generalize rowAt op = r at *
    go_enter Try.func22, Try.ntmps22
    go_wp2_with (first | (go_at_call 35; refine (HK.out _).mono ?_; rintro e w' ⟨rfl, rfl⟩) | (go_at_call 27; refine (table_any _).mono ?_; rintro e w' ⟨rfl, rfl⟩))
    all_goals
      go_ret
      refine ⟨ret_bool (by rw [HD.out]; simp [*]), ?_⟩
      repeat (first | exact Below.refl _ _ | refine Below.alloc ?_ (by first | (simp; done) | (simp; omega) | exact Nat.le_refl _) _)

set_option maxHeartbeats 800000 in
theorem stores_any (op : Int) (w : World) :
    Calls Try.prog 23 #[.int .i64 op] w fun e w' => e = .returned (.bool (storesB op)) ∧ Below w.heap.size w w' := by
  have HK := hid (show ∀ w, Calls Try.prog 35 #[.int .i64 op] w fun e w' => e = .returned (.bool (known op)) ∧ w = w' from fun w => known_any op w)
  cases hk : known op with
  | false =>
    go_enter Try.func23, Try.ntmps23
    go_wp2_with (go_at_call 35; refine (HK.out _).mono ?_; rintro e w' ⟨rfl, rfl⟩)
    go_ret
    exact ⟨ret_bool (by simp [storesB, hk]), Below.refl _ _⟩
  | true =>
    have hb : 1 ≤ op ∧ op ≤ 98 := by simpa [known] using hk
    have hidx := run_tab op (by omega) hb.2
    have hrf := run_row1
    have HD := hid (show storesB op = (known op && _) from rfl)
    rw [hk] at HD
    generalize rowAt op = r at *
    go_enter Try.func23, Try.ntmps23
    go_wp2_with (first | (go_at_call 35; refine (HK.out _).mono ?_; rintro e w' ⟨rfl, rfl⟩) | (go_at_call 27; refine (table_any _).mono ?_; rintro e w' ⟨rfl, rfl⟩))
    all_goals
      go_ret
      refine ⟨ret_bool (by rw [HD.out]; simp [*]), ?_⟩
      repeat (first | exact Below.refl _ _ | refine Below.alloc ?_ (by first | (simp; done) | (simp; omega) | exact Nat.le_refl _) _)

set_option maxHeartbeats 800000 in
theorem branches_any (op : Int) (w : World) :
    Calls Try.prog 24 #[.int .i64 op] w fun e w' => e = .returned (.bool (branchesB op)) ∧ Below w.heap.size w w' := by
  have HK := hid (show ∀ w, Calls Try.prog 35 #[.int .i64 op] w fun e w' => e = .returned (.bool (known op)) ∧ w = w' from fun w => known_any op w)
  cases hk : known op with
  | false =>
    go_enter Try.func24, Try.ntmps24
    go_wp2_with (go_at_call 35; refine (HK.out _).mono ?_; rintro e w' ⟨rfl, rfl⟩)
    go_ret
    exact ⟨ret_bool (by simp [branchesB, hk]), Below.refl _ _⟩
  | true =>
    have hb : 1 ≤ op ∧ op ≤ 98 := by simpa [known] using hk
    have hidx := run_tab op (by omega) hb.2
    have hrf := run_row1
    have HD := hid (show branchesB op = (known op && _) from rfl)
    rw [hk] at HD
    generalize rowAt op = r at *
    go_enter Try.func24, Try.ntmps24
    go_wp2_with (first | (go_at_call 35; refine (HK.out _).mono ?_; rintro e w' ⟨rfl, rfl⟩) | (go_at_call 27; refine (table_any _).mono ?_; rintro e w' ⟨rfl, rfl⟩))
    all_goals
      go_ret
      refine ⟨ret_bool (by rw [HD.out]; simp [*]), ?_⟩
      repeat (first | exact Below.refl _ _ | refine Below.alloc ?_ (by first | (simp; done) | (simp; omega) | exact Nat.le_refl _) _)

set_option maxHeartbeats 800000 in
theorem atomics_any (op : Int) (w : World) :
    Calls Try.prog 25 #[.int .i64 op] w fun e w' => e = .returned (.bool (atomicsB op)) ∧ Below w.heap.size w w' := by
  have HK := hid (show ∀ w, Calls Try.prog 35 #[.int .i64 op] w fun e w' => e = .returned (.bool (known op)) ∧ w = w' from fun w => known_any op w)
  cases hk : known op with
  | false =>
    go_enter Try.func25, Try.ntmps25
    go_wp2_with (go_at_call 35; refine (HK.out _).mono ?_; rintro e w' ⟨rfl, rfl⟩)
    go_ret
    exact ⟨ret_bool (by simp [atomicsB, hk]), Below.refl _ _⟩
  | true =>
    have hb : 1 ≤ op ∧ op ≤ 98 := by simpa [known] using hk
    have hidx := run_tab op (by omega) hb.2
    have hrf := run_row1
    have HD := hid (show atomicsB op = (known op && _) from rfl)
    rw [hk] at HD
    generalize rowAt op = r at *
    go_enter Try.func25, Try.ntmps25
    go_wp2_with (first | (go_at_call 35; refine (HK.out _).mono ?_; rintro e w' ⟨rfl, rfl⟩) | (go_at_call 27; refine (table_any _).mono ?_; rintro e w' ⟨rfl, rfl⟩))
    all_goals
      go_ret
      refine ⟨ret_bool (by rw [HD.out]; simp [*]), ?_⟩
      repeat (first | exact Below.refl _ _ | refine Below.alloc ?_ (by first | (simp; done) | (simp; omega) | exact Nat.le_refl _) _)

set_option maxHeartbeats 800000 in
theorem systems_any (op : Int) (w : World) :
    Calls Try.prog 26 #[.int .i64 op] w fun e w' => e = .returned (.bool (systemsB op)) ∧ Below w.heap.size w w' := by
  have HK := hid (show ∀ w, Calls Try.prog 35 #[.int .i64 op] w fun e w' => e = .returned (.bool (known op)) ∧ w = w' from fun w => known_any op w)
  cases hk : known op with
  | false =>
    go_enter Try.func26, Try.ntmps26
    go_wp2_with (go_at_call 35; refine (HK.out _).mono ?_; rintro e w' ⟨rfl, rfl⟩)
    go_ret
    exact ⟨ret_bool (by simp [systemsB, hk]), Below.refl _ _⟩
  | true =>
    have hb : 1 ≤ op ∧ op ≤ 98 := by simpa [known] using hk
    have hidx := run_tab op (by omega) hb.2
    have hrf := run_row1
    have HD := hid (show systemsB op = (known op && _) from rfl)
    rw [hk] at HD
    generalize rowAt op = r at *
    go_enter Try.func26, Try.ntmps26
    go_wp2_with (first | (go_at_call 35; refine (HK.out _).mono ?_; rintro e w' ⟨rfl, rfl⟩) | (go_at_call 27; refine (table_any _).mono ?_; rintro e w' ⟨rfl, rfl⟩))
    all_goals
      go_ret
      refine ⟨ret_bool (by rw [HD.out]; simp [*]), ?_⟩
      repeat (first | exact Below.refl _ _ | refine Below.alloc ?_ (by first | (simp; done) | (simp; omega) | exact Nat.le_refl _) _)


end Go.Proofs.Ythifnlhbioaihaa
