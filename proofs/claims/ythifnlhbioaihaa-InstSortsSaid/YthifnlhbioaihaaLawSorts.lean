/- The walk of vireolaw03.InstSorts: it answers true. -/
import Derived.Test.YthifnlhbioaihaaRefF
import Derived.Test.YthifnlhbioaihaaLawEnc
import Derived.Deep.RegionHeld3
namespace Go.Proofs.Ythifnlhbioaihaa
open Go.RowKit
set_option linter.unusedVariables false
set_option linter.unusedSimpArgs false

def apartL : List (List UInt8) → Bool
  | [] => true
  | a :: l => l.all (fun b => a != b) && apartL l

theorem names_apart : apartL (rows.map fun r => r.name.data.toList) = true := by decide +kernel

theorem apartL_at : ∀ (l : List (List UInt8)), apartL l = true → ∀ (i j : Nat) (hi : i < l.length) (hj : j < l.length), i < j → l[i] ≠ l[j] := by
  intro l
  induction l with
  | nil => intro _ i j hi; simp at hi
  | cons a l ih =>
    intro h i j hi hj hij
    simp only [apartL, Bool.and_eq_true, List.all_eq_true, bne_iff_ne] at h
    obtain ⟨j, rfl⟩ : ∃ m, j = m + 1 := ⟨j - 1, by omega⟩
    cases i with
    | zero => exact h.1 _ (List.getElem_mem _)
    | succ i => exact ih h.2 i j (by simpa using hi) (by simpa using hj) (by omega)

theorem rowAt_rows (k : Nat) (h1 : 1 ≤ k) (h2 : k ≤ 98) : ∃ h : k - 1 < rows.length, rowAt (k : Int) = rows[k - 1] := by
  have hrl : rows.length = 98 := by decide +kernel
  refine ⟨by omega, ?_⟩
  obtain ⟨m, rfl⟩ : ∃ m, k = m + 1 := ⟨k - 1, by omega⟩
  have hm' : m < rows.length := by omega
  unfold rowAt
  rw [Int.toNat_natCast]
  simp [allRows, List.getD_eq_getElem?_getD, hm']

/-- No two operations have one name. -/
theorem name_one (nm : ByteArray) (i j : Nat) (i1 : 1 ≤ i) (i2 : i ≤ 98) (j1 : 1 ≤ j) (j2 : j ≤ 98) (hi : ((rowAt i).name.toList == nm.toList) = true) (hj : ((rowAt j).name.toList == nm.toList) = true) : i = j := by
  obtain ⟨li, ei⟩ := rowAt_rows i i1 i2
  obtain ⟨lj, ej⟩ := rowAt_rows j j1 j2
  rw [beq_iff_eq] at hi hj
  have he : (rowAt i).name.toList = (rowAt j).name.toList := hi.trans hj.symm
  rw [ei, ej, ByteArray.toList_eq, ByteArray.toList_eq] at he
  have hl : (rows.map fun r => r.name.data.toList).length = rows.length := List.length_map _
  rcases Nat.lt_trichotomy i j with h | h | h
  · exact absurd (by rw [List.getElem_map, List.getElem_map]; exact he) (apartL_at _ names_apart (i - 1) (j - 1) (by omega) (by omega) (by omega))
  · exact h
  · exact absurd (by rw [List.getElem_map, List.getElem_map]; exact he.symm) (apartL_at _ names_apart (j - 1) (i - 1) (by omega) (by omega) (by omega))

/-- What the statement's loop has found so far. -/
def SoFar (nm : ByteArray) (i m : Nat) : Prop :=
  (m = 0 ∧ ∀ j : Nat, 1 ≤ j → j ≤ i → ((rowAt j).name.toList == nm.toList) = false) ∨ (1 ≤ m ∧ m ≤ i ∧ ((rowAt m).name.toList == nm.toList) = true)

theorem find_same (nm : ByteArray) (m : Nat) (r : Int) (h : SoFar nm 98 m) (g : IsFind nm r) : r = m := by
  rcases h with ⟨rfl, h⟩ | ⟨h1, h2, h3⟩
  · rcases g with ⟨k, k1, k2, _, k3, _⟩ | ⟨_, rfl⟩
    · have := h k k1 k2; rw [k3] at this; cases this
    · rfl
  · rcases g with ⟨k, k1, k2, _, k3, rfl⟩ | ⟨g, _⟩
    · rw [name_one nm k m k1 k2 h1 h2 k3 h3]
    · have := g m h1 h2; rw [h3] at this; cases this

theorem of_row (op : Int) (w : World) :
    Calls Try.prog 16 #[.int .i64 op] w fun e w' => e = .returned (.agg #[.string (rowOf op).name, .int .i64 (rowOf op).form, .int .i64 (rowOf op).code, .int .i64 (rowOf op).f3, .int .i64 (rowOf op).f7]) ∧ Below w.heap.size w w' := by
  unfold rowOf
  cases hk : known op with
  | true =>
    have hb : 1 ≤ op ∧ op ≤ 98 := by simpa [known] using hk
    simp only [↓reduceIte]
    exact (of_known op w hb.1 hb.2).mono fun e w' ⟨h1, h2⟩ => ⟨h1, by rw [← h2]; exact ((Below.refl _ _).alloc (Nat.le_refl _) _).alloc (by simp) _⟩
  | false =>
    simp only [Bool.false_eq_true, ↓reduceIte]
    exact (of_unknown op w hk).mono fun e w' ⟨h1, h2⟩ => ⟨h1, by rw [← h2]; exact (Below.refl _ _).alloc (Nat.le_refl _) _⟩

theorem row_name (op : Int) : (if known op then (rowAt op).name else ⟨#[]⟩) = (rowOf op).name := by
  unfold rowOf; cases known op <;> rfl
theorem row_loads (op : Int) : loadsB op = ((rowOf op).form == 5) := by
  unfold rowOf loadsB; cases known op <;> simp [row0]
theorem row_stores (op : Int) : storesB op = ((rowOf op).form == 6) := by
  unfold rowOf storesB; cases known op <;> simp [row0]
theorem row_branches (op : Int) : branchesB op = ((rowOf op).form == 4) := by
  unfold rowOf branchesB; cases known op <;> simp [row0]
theorem row_atomics (op : Int) : atomicsB op = ((rowOf op).form == 14 || (rowOf op).form == 15) := by
  unfold rowOf atomicsB; cases known op <;> simp [row0, Bool.or_comm]
theorem row_systems (op : Int) : systemsB op = ((rowOf op).form == 12 || (rowOf op).form == 13) := by
  unfold rowOf systemsB; cases known op <;> simp [row0]

theorem sorts_step {w wx w' : World} {g : Nat} {rn : ByteArray} {form : Int} (h : wx.cell? ⟨g, 0, none⟩ = some (.string rn) ∧ wx.cell? ⟨g, 1, none⟩ = some (.int .i64 form) ∧ g < wx.heap.size ∧ Below w.heap.size w wx) (hb : Below wx.heap.size wx w') :
    w'.cell? ⟨g, 0, none⟩ = some (.string rn) ∧ w'.cell? ⟨g, 1, none⟩ = some (.int .i64 form) ∧ g < w'.heap.size ∧ Below w.heap.size w w' :=
  ⟨(hb.cell (p := ⟨g, 0, none⟩) h.2.2.1).trans h.1, (hb.cell (p := ⟨g, 1, none⟩) h.2.2.1).trans h.2.1, Nat.lt_of_lt_of_le h.2.2.1 hb.size, h.2.2.2.trans (hb.mono h.2.2.2.size)⟩

set_option maxHeartbeats 8000000 in
set_option maxRecDepth 100000 in
theorem law_sorts (op : Int) (nm : ByteArray) (w : World) :
    Calls Try.prog 8 #[.int .i64 op, .string nm] w fun e w' => e = .returned (.bool true) ∧ Below w.heap.size w w' := by
  have HO := hid (fun w => of_row op w)
  have HN := hid (fun w => name_any op w)
  rw [row_name] at HN
  have HL := hid (fun w => loads_any op w)
  have HS := hid (fun w => stores_any op w)
  have HB := hid (fun w => branches_any op w)
  have HA := hid (fun w => atomics_any op w)
  have HY := hid (fun w => systems_any op w)
  rw [row_loads] at HL
  rw [row_stores] at HS
  rw [row_branches] at HB
  rw [row_atomics] at HA
  rw [row_systems] at HY
  have HWI := hid (fun w => width_any op w)
  have HWR := hid (fun w => rwidth_any op w)
  have HF := hid (fun w => find_any nm w)
  generalize widthB op = wd at *
  generalize rowOf op = r at *
  obtain ⟨rn, form, code, f3, f7⟩ := r
  dsimp only at HO HN HL HS HB HA HY
  go_enter Try.func8, Try.ntmps8
  go_wp2_with fail
  refine (awake_any _).mono ?_
  rintro e w1 ⟨rfl, hb1⟩
  go_wp2_with fail
  refine (HO.out _).mono ?_
  rintro e w2 ⟨rfl, hb2⟩
  go_wp2_with fail
  refine (rows_any _).mono ?_
  rintro e w' ⟨rfl, rfl⟩
  have HC := hid (fun (k : Nat) (h1 : 1 ≤ k) (h2 : k ≤ 98) => rrow_cell (w2.alloc (.cells #[.string rn, .int .i64 form, .int .i64 code, .int .i64 f3, .int .i64 f7] 39)) k h1 h2 0 (by omega) 39)
  have HBW := hid (show Below w.heap.size w ((w2.alloc (.cells #[.string rn, .int .i64 form, .int .i64 code, .int .i64 f3, .int .i64 f7] 39)).alloc (.cells rowsCells 39)) from ((hb1.trans (hb2.mono hb1.size)).alloc (hb1.trans (hb2.mono hb1.size)).size _).alloc (by have := (hb1.trans (hb2.mono hb1.size)).size; simp; omega) _)
  clear hb1 hb2
  generalize hrc : rowsCells = rc at *
  have HRC := hid hrc; clear hrc
  go_wp2_with fail
  go_loopw [6, 8] (fun n i wr => ∃ (k m : Nat), k ≤ 98 ∧ SoFar nm k m ∧ i = .int .i64 k ∧ n = .int .i64 m ∧ (w2.alloc (.cells #[.string rn, .int .i64 form, .int .i64 code, .int .i64 f3, .int .i64 f7] 39)).alloc (.cells rc 39) = wr)
    (fun _ i _ => 98 - (intOf i).toNat)
  case atStart => exact ⟨0, 0, by omega, .inl ⟨rfl, fun j h1 h2 => by omega⟩, rfl, rfl, by simp⟩
  case round =>
    obtain ⟨k, m, hk, hso, rfl, rfl, rfl⟩ := hrel
    have HSO := hid hso; clear hso
    by_cases hlt : k < 98
    · have hcell : ((w2.alloc (.cells #[.string rn, .int .i64 form, .int .i64 code, .int .i64 f3, .int .i64 f7] 39)).alloc (.cells rc 39)).cell? ⟨w2.heap.size + 1, k * 5, none⟩ = some (.string (rowAt ((k + 1 : Nat) : Int)).name) := by
        have h := HC.out (k + 1) (by omega) (by omega)
        simpa [Row.rv] using h
      generalize hnn : (rowAt ((k + 1 : Nat) : Int)).name = nn at *
      have HNN := hid hnn; clear hnn
      have hm : m ≤ 98 := by rcases HSO.out with h | h <;> omega
      cases hq : (nn.toList == nm.toList) with
      | true =>
        go_wp2
        refine ⟨⟨k + 1, k + 1, by omega, .inr ⟨by omega, by omega, by rw [HNN.out]; exact hq⟩, by go_num, by go_num, by simp⟩, by simp [intOf] <;> omega⟩
      | false =>
        go_wp2
        refine ⟨⟨k + 1, m, by omega, ?_, by go_num, by go_num, by simp⟩, by simp [intOf] <;> omega⟩
        rcases HSO.out with ⟨h1, h2⟩ | ⟨h1, h2, h3⟩
        · refine .inl ⟨h1, fun j g1 g2 => ?_⟩
          by_cases e : j = k + 1
          · rw [e, HNN.out]; exact hq
          · exact h2 j g1 (by omega)
        · exact .inr ⟨h1, by omega, h3⟩
    · have e : k = 98 := by omega
      subst e
      have HFI := hid (fun r g => find_same nm m r HSO.out g)
      clear HO HC
      have k0 : ((w2.alloc (.cells #[.string rn, .int .i64 form, .int .i64 code, .int .i64 f3, .int .i64 f7] 39)).alloc (.cells rc 39)).cell? ⟨w2.heap.size, 0, none⟩ = some (.string rn) := by simp [go_sem]
      have k1 : ((w2.alloc (.cells #[.string rn, .int .i64 form, .int .i64 code, .int .i64 f3, .int .i64 f7] 39)).alloc (.cells rc 39)).cell? ⟨w2.heap.size, 1, none⟩ = some (.int .i64 form) := by simp [go_sem]
      have k2 : w2.heap.size < ((w2.alloc (.cells #[.string rn, .int .i64 form, .int .i64 code, .int .i64 f3, .int .i64 f7] 39)).alloc (.cells rc 39)).heap.size := by simp; omega
      have k3 := HBW.out
      clear HBW
      generalize (w2.alloc (.cells #[.string rn, .int .i64 form, .int .i64 code, .int .i64 f3, .int .i64 f7] 39)).alloc (.cells rc 39) = W0 at *
      go_wp2_with fail
      go_region_held3 (fun w' => w'.cell? ⟨w2.heap.size, 0, none⟩ = some (.string rn) ∧ w'.cell? ⟨w2.heap.size, 1, none⟩ = some (.int .i64 form) ∧ w2.heap.size < w'.heap.size ∧ Below w.heap.size w w') (first | assumption | (refine ⟨?_, ?_, ?_, ?_⟩ <;> first | assumption | (apply Below.drew; assumption) | (simp only [heap_drew]; assumption) | go_keep)) (first | (go_at_call 18; refine (HN.out _).mono ?_; rintro e w' ⟨rfl, hb⟩; have hs' := sorts_step (by assumption) hb; clear hb) | (go_at_call 19; refine (HF.out _).mono ?_; rintro e w' ⟨rr, hrr, rfl, hb⟩; obtain rfl := HFI.out _ hrr; clear hrr; have hs' := sorts_step (by assumption) hb; clear hb) | (go_at_call 20; refine (HWI.out _).mono ?_; rintro e w' ⟨rfl, hb⟩; have hs' := sorts_step (by assumption) hb; clear hb) | (go_at_call 21; refine (HWR.out _).mono ?_; rintro e w' ⟨rfl, hb⟩; have hs' := sorts_step (by assumption) hb; clear hb) | (go_at_call 22; refine (HL.out _).mono ?_; rintro e w' ⟨rfl, hb⟩; have hs' := sorts_step (by assumption) hb; clear hb) | (go_at_call 23; refine (HS.out _).mono ?_; rintro e w' ⟨rfl, hb⟩; have hs' := sorts_step (by assumption) hb; clear hb) | (go_at_call 24; refine (HB.out _).mono ?_; rintro e w' ⟨rfl, hb⟩; have hs' := sorts_step (by assumption) hb; clear hb) | (go_at_call 25; refine (HA.out _).mono ?_; rintro e w' ⟨rfl, hb⟩; have hs' := sorts_step (by assumption) hb; clear hb) | (go_at_call 26; refine (HY.out _).mono ?_; rintro e w' ⟨rfl, hb⟩; have hs' := sorts_step (by assumption) hb; clear hb))
      go_wp2_with fail
      obtain ⟨j0, j1, j2, j3⟩ := ‹w'.cell? ⟨w2.heap.size, 0, none⟩ = some (.string rn) ∧ w'.cell? ⟨w2.heap.size, 1, none⟩ = some (.int .i64 form) ∧ w2.heap.size < w'.heap.size ∧ Below w.heap.size w w'›
      clear k0 k1 k2 k3
      by_cases g14 : form = 14
      rotate_left
      by_cases g12 : form = 12
      rotate_left
      · have h14 : (form == 14) = false := by simpa using g14
        have h12 : (form == 12) = false := by simpa using g12
        simp only [h14, h12, Bool.true_or, Bool.false_or] at HA HY
        clear g14 g12
        go_region_held3 (fun w' => w'.cell? ⟨w2.heap.size, 0, none⟩ = some (.string rn) ∧ w'.cell? ⟨w2.heap.size, 1, none⟩ = some (.int .i64 form) ∧ w2.heap.size < w'.heap.size ∧ Below w.heap.size w w') (first | assumption | (refine ⟨?_, ?_, ?_, ?_⟩ <;> first | assumption | (apply Below.drew; assumption) | (simp only [heap_drew]; assumption) | go_keep)) (first | (go_at_call 18; refine (HN.out _).mono ?_; rintro e w' ⟨rfl, hb⟩; have hs' := sorts_step (by assumption) hb; clear hb) | (go_at_call 19; refine (HF.out _).mono ?_; rintro e w' ⟨rr, hrr, rfl, hb⟩; obtain rfl := HFI.out _ hrr; clear hrr; have hs' := sorts_step (by assumption) hb; clear hb) | (go_at_call 20; refine (HWI.out _).mono ?_; rintro e w' ⟨rfl, hb⟩; have hs' := sorts_step (by assumption) hb; clear hb) | (go_at_call 21; refine (HWR.out _).mono ?_; rintro e w' ⟨rfl, hb⟩; have hs' := sorts_step (by assumption) hb; clear hb) | (go_at_call 22; refine (HL.out _).mono ?_; rintro e w' ⟨rfl, hb⟩; have hs' := sorts_step (by assumption) hb; clear hb) | (go_at_call 23; refine (HS.out _).mono ?_; rintro e w' ⟨rfl, hb⟩; have hs' := sorts_step (by assumption) hb; clear hb) | (go_at_call 24; refine (HB.out _).mono ?_; rintro e w' ⟨rfl, hb⟩; have hs' := sorts_step (by assumption) hb; clear hb) | (go_at_call 25; refine (HA.out _).mono ?_; rintro e w' ⟨rfl, hb⟩; have hs' := sorts_step (by assumption) hb; clear hb) | (go_at_call 26; refine (HY.out _).mono ?_; rintro e w' ⟨rfl, hb⟩; have hs' := sorts_step (by assumption) hb; clear hb))
        go_wp2_with fail
        go_ret
        exact ⟨rfl, (‹w'.cell? ⟨w2.heap.size, 0, none⟩ = some (.string rn) ∧ w'.cell? ⟨w2.heap.size, 1, none⟩ = some (.int .i64 form) ∧ w2.heap.size < w'.heap.size ∧ Below w.heap.size w w'›).2.2.2⟩
      · subst form
        simp only [Int.reduceBEq, Bool.true_or, Bool.or_true, Bool.false_or, Bool.or_false] at HL HS HB HA HY
        refine wp_region_noPanic ?_
        refine wp_region_held_drew (S := (fun w' => w'.cell? ⟨w2.heap.size, 0, none⟩ = some (.string rn) ∧ w'.cell? ⟨w2.heap.size, 1, none⟩ = some (.int .i64 14) ∧ w2.heap.size < w'.heap.size ∧ Below w.heap.size w w')) (by kernel_rfl) ⟨by go_keep, by go_keep, by simp only [heap_drew]; assumption, by apply Below.drew; assumption⟩ (fun hHeld => ?_)
        clear j0 j1 j2 j3
        refine wpAnyH_take (i := 0) (v := ?v47x14) (Eq.trans List.getElem?_toArray rfl) (by kernel_rfl) (by kernel_rfl) (by kernel_rfl) (fun _ _ _ h => h) (Or.inl ⟨by rfl, ?y47x14⟩) (by assumption) ?r47x14
        case y47x14 => intro w hSw; (try dsimp only at hSw); go_simp; try with_reducible rfl
        try simp only [Act.put, List.setIfInBounds_toArray, List.set_cons_zero, List.set_cons_succ]
        refine wpAnyH_take (i := 2) (v := ?v49x14) (Eq.trans List.getElem?_toArray rfl) (by kernel_rfl) (by kernel_rfl) (by kernel_rfl) (fun _ _ _ h => h) (Or.inl ⟨by rfl, ?y49x14⟩) (by assumption) ?r49x14
        case y49x14 => intro w hSw; (try dsimp only at hSw); go_simp; try with_reducible rfl
        try simp only [Act.put, List.setIfInBounds_toArray, List.set_cons_zero, List.set_cons_succ]
        refine wpAnyH_take (i := 3) (v := ?v50x14) (Eq.trans List.getElem?_toArray rfl) (by kernel_rfl) (by kernel_rfl) (by kernel_rfl) (fun _ _ _ h => h) (Or.inl ⟨by rfl, ?y50x14⟩) (by assumption) ?r50x14
        case y50x14 => intro w hSw; (try dsimp only at hSw); go_simp; try with_reducible rfl
        try simp only [Act.put, List.setIfInBounds_toArray, List.set_cons_zero, List.set_cons_succ]
        refine wpAnyH_take (i := 4) (v := ?v51x14) (Eq.trans List.getElem?_toArray rfl) (by kernel_rfl) (by kernel_rfl) (by kernel_rfl) (fun _ _ _ h => h) (Or.inl ⟨by rfl, ?y51x14⟩) (by assumption) ?r51x14
        case y51x14 => intro w hSw; (try dsimp only at hSw); go_simp; try with_reducible rfl
        try simp only [Act.put, List.setIfInBounds_toArray, List.set_cons_zero, List.set_cons_succ]
        refine wpAnyH_ready (rs := [1]) (by kernel_rfl) (by simp) ?_
        refine AllReadyH.cons (Eq.trans List.getElem?_toArray rfl) (fun K hK => ?s48x14) AllReadyH.nil
        go_simp
        (first | (go_at_call 18; refine (HN.out _).mono ?_; rintro e w' ⟨rfl, hb⟩; have hs' := sorts_step (by assumption) hb; clear hb) | (go_at_call 19; refine (HF.out _).mono ?_; rintro e w' ⟨rr, hrr, rfl, hb⟩; obtain rfl := HFI.out _ hrr; clear hrr; have hs' := sorts_step (by assumption) hb; clear hb) | (go_at_call 20; refine (HWI.out _).mono ?_; rintro e w' ⟨rfl, hb⟩; have hs' := sorts_step (by assumption) hb; clear hb) | (go_at_call 21; refine (HWR.out _).mono ?_; rintro e w' ⟨rfl, hb⟩; have hs' := sorts_step (by assumption) hb; clear hb) | (go_at_call 22; refine (HL.out _).mono ?_; rintro e w' ⟨rfl, hb⟩; have hs' := sorts_step (by assumption) hb; clear hb) | (go_at_call 23; refine (HS.out _).mono ?_; rintro e w' ⟨rfl, hb⟩; have hs' := sorts_step (by assumption) hb; clear hb) | (go_at_call 24; refine (HB.out _).mono ?_; rintro e w' ⟨rfl, hb⟩; have hs' := sorts_step (by assumption) hb; clear hb) | (go_at_call 25; refine (HA.out _).mono ?_; rintro e w' ⟨rfl, hb⟩; have hs' := sorts_step (by assumption) hb; clear hb) | (go_at_call 26; refine (HY.out _).mono ?_; rintro e w' ⟨rfl, hb⟩; have hs' := sorts_step (by assumption) hb; clear hb))
        go_wp2_with fail
        refine hK.out _ _ (by first | assumption | (dsimp only; assumption)) ?_
        clear hK K hHeld hs'
        intro hHeld
        try simp only [Act.put, List.setIfInBounds_toArray, List.set_cons_zero, List.set_cons_succ]
        refine wpAnyH_take (i := 5) (v := ?v52x14) (Eq.trans List.getElem?_toArray rfl) (by kernel_rfl) (by kernel_rfl) (by kernel_rfl) (fun _ _ _ h => h) (Or.inl ⟨by rfl, ?y52x14⟩) (by assumption) ?r52x14
        case y52x14 => intro w hSw; (try dsimp only at hSw); go_simp; try with_reducible rfl
        try simp only [Act.put, List.setIfInBounds_toArray, List.set_cons_zero, List.set_cons_succ]
        refine wpAnyH_take (i := 6) (v := ?v53x14) (Eq.trans List.getElem?_toArray rfl) (by kernel_rfl) (by kernel_rfl) (by kernel_rfl) (fun _ _ _ h => h) (Or.inl ⟨by rfl, ?y53x14⟩) (by assumption) ?r53x14
        case y53x14 => intro w hSw; (try dsimp only at hSw); go_simp; try with_reducible rfl
        try simp only [Act.put, List.setIfInBounds_toArray, List.set_cons_zero, List.set_cons_succ]
        refine wpAnyH_take (i := 7) (v := ?v54x14) (Eq.trans List.getElem?_toArray rfl) (by kernel_rfl) (by kernel_rfl) (by kernel_rfl) (fun _ _ _ h => h) (Or.inl ⟨by rfl, ?y54x14⟩) (by assumption) ?r54x14
        case y54x14 => intro w hSw; (try dsimp only at hSw); go_simp; try with_reducible rfl
        try simp only [Act.put, List.setIfInBounds_toArray, List.set_cons_zero, List.set_cons_succ]
        refine wpAnyH_take (i := 9) (v := ?v56x14) (Eq.trans List.getElem?_toArray rfl) (by kernel_rfl) (by kernel_rfl) (by kernel_rfl) (fun _ _ _ h => h) (Or.inl ⟨by rfl, ?y56x14⟩) (by assumption) ?r56x14
        case y56x14 => intro w hSw; (try dsimp only at hSw); go_simp; try with_reducible rfl
        try simp only [Act.put, List.setIfInBounds_toArray, List.set_cons_zero, List.set_cons_succ]
        refine wpAnyH_take (i := 10) (v := ?v57x14) (Eq.trans List.getElem?_toArray rfl) (by kernel_rfl) (by kernel_rfl) (by kernel_rfl) (fun _ _ _ h => h) (Or.inl ⟨by rfl, ?y57x14⟩) (by assumption) ?r57x14
        case y57x14 => intro w hSw; (try dsimp only at hSw); go_simp; try with_reducible rfl
        try simp only [Act.put, List.setIfInBounds_toArray, List.set_cons_zero, List.set_cons_succ]
        refine wpAnyH_take (i := 11) (v := ?v58x14) (Eq.trans List.getElem?_toArray rfl) (by kernel_rfl) (by kernel_rfl) (by kernel_rfl) (fun _ _ _ h => h) (Or.inl ⟨by rfl, ?y58x14⟩) (by assumption) ?r58x14
        case y58x14 => intro w hSw; (try dsimp only at hSw); go_simp; try with_reducible rfl
        try simp only [Act.put, List.setIfInBounds_toArray, List.set_cons_zero, List.set_cons_succ]
        refine wpAnyH_ready (rs := [8]) (by kernel_rfl) (by simp) ?_
        refine AllReadyH.cons (Eq.trans List.getElem?_toArray rfl) (fun K hK => ?s55x14) AllReadyH.nil
        go_simp
        (first | (go_at_call 18; refine (HN.out _).mono ?_; rintro e w' ⟨rfl, hb⟩; have hs' := sorts_step (by assumption) hb; clear hb) | (go_at_call 19; refine (HF.out _).mono ?_; rintro e w' ⟨rr, hrr, rfl, hb⟩; obtain rfl := HFI.out _ hrr; clear hrr; have hs' := sorts_step (by assumption) hb; clear hb) | (go_at_call 20; refine (HWI.out _).mono ?_; rintro e w' ⟨rfl, hb⟩; have hs' := sorts_step (by assumption) hb; clear hb) | (go_at_call 21; refine (HWR.out _).mono ?_; rintro e w' ⟨rfl, hb⟩; have hs' := sorts_step (by assumption) hb; clear hb) | (go_at_call 22; refine (HL.out _).mono ?_; rintro e w' ⟨rfl, hb⟩; have hs' := sorts_step (by assumption) hb; clear hb) | (go_at_call 23; refine (HS.out _).mono ?_; rintro e w' ⟨rfl, hb⟩; have hs' := sorts_step (by assumption) hb; clear hb) | (go_at_call 24; refine (HB.out _).mono ?_; rintro e w' ⟨rfl, hb⟩; have hs' := sorts_step (by assumption) hb; clear hb) | (go_at_call 25; refine (HA.out _).mono ?_; rintro e w' ⟨rfl, hb⟩; have hs' := sorts_step (by assumption) hb; clear hb) | (go_at_call 26; refine (HY.out _).mono ?_; rintro e w' ⟨rfl, hb⟩; have hs' := sorts_step (by assumption) hb; clear hb))
        go_wp2_with fail
        refine hK.out _ _ (by first | assumption | (dsimp only; assumption)) ?_
        clear hK K hHeld hs'
        intro hHeld
        try simp only [Act.put, List.setIfInBounds_toArray, List.set_cons_zero, List.set_cons_succ]
        refine wpAnyH_take (i := 12) (v := ?v59x14) (Eq.trans List.getElem?_toArray rfl) (by kernel_rfl) (by kernel_rfl) (by kernel_rfl) (fun _ _ _ h => h) (Or.inl ⟨by rfl, ?y59x14⟩) (by assumption) ?r59x14
        case y59x14 => intro w hSw; (try dsimp only at hSw); go_simp; try with_reducible rfl
        try simp only [Act.put, List.setIfInBounds_toArray, List.set_cons_zero, List.set_cons_succ]
        refine wpAnyH_take (i := 13) (v := ?v60x14) (Eq.trans List.getElem?_toArray rfl) (by kernel_rfl) (by kernel_rfl) (by kernel_rfl) (fun _ _ _ h => h) (Or.inl ⟨by rfl, ?y60x14⟩) (by assumption) ?r60x14
        case y60x14 => intro w hSw; (try dsimp only at hSw); go_simp; try with_reducible rfl
        try simp only [Act.put, List.setIfInBounds_toArray, List.set_cons_zero, List.set_cons_succ]
        refine wpAnyH_take (i := 14) (v := ?v61x14) (Eq.trans List.getElem?_toArray rfl) (by kernel_rfl) (by kernel_rfl) (by kernel_rfl) (fun _ _ _ h => h) (Or.inl ⟨by rfl, ?y61x14⟩) (by assumption) ?r61x14
        case y61x14 => intro w hSw; (try dsimp only at hSw); go_simp; try with_reducible rfl
        try simp only [Act.put, List.setIfInBounds_toArray, List.set_cons_zero, List.set_cons_succ]
        refine wpAnyH_take (i := 15) (v := ?v62x14) (Eq.trans List.getElem?_toArray rfl) (by kernel_rfl) (by kernel_rfl) (by kernel_rfl) (fun _ _ _ h => h) (Or.inl ⟨by rfl, ?y62x14⟩) (by assumption) ?r62x14
        case y62x14 => intro w hSw; (try dsimp only at hSw); go_simp; try with_reducible rfl
        try simp only [Act.put, List.setIfInBounds_toArray, List.set_cons_zero, List.set_cons_succ]
        refine wpAnyH_take (i := 17) (v := ?v64x14) (Eq.trans List.getElem?_toArray rfl) (by kernel_rfl) (by kernel_rfl) (by kernel_rfl) (fun _ _ _ h => h) (Or.inl ⟨by rfl, ?y64x14⟩) (by assumption) ?r64x14
        case y64x14 => intro w hSw; (try dsimp only at hSw); go_simp; try with_reducible rfl
        try simp only [Act.put, List.setIfInBounds_toArray, List.set_cons_zero, List.set_cons_succ]
        refine wpAnyH_take (i := 18) (v := ?v65x14) (Eq.trans List.getElem?_toArray rfl) (by kernel_rfl) (by kernel_rfl) (by kernel_rfl) (fun _ _ _ h => h) (Or.inl ⟨by rfl, ?y65x14⟩) (by assumption) ?r65x14
        case y65x14 => intro w hSw; (try dsimp only at hSw); go_simp; try with_reducible rfl
        try simp only [Act.put, List.setIfInBounds_toArray, List.set_cons_zero, List.set_cons_succ]
        refine wpAnyH_take (i := 19) (v := ?v66x14) (Eq.trans List.getElem?_toArray rfl) (by kernel_rfl) (by kernel_rfl) (by kernel_rfl) (fun _ _ _ h => h) (Or.inl ⟨by rfl, ?y66x14⟩) (by assumption) ?r66x14
        case y66x14 => intro w hSw; (try dsimp only at hSw); go_simp; try with_reducible rfl
        try simp only [Act.put, List.setIfInBounds_toArray, List.set_cons_zero, List.set_cons_succ]
        refine wpAnyH_ready (rs := [16]) (by kernel_rfl) (by simp) ?_
        refine AllReadyH.cons (Eq.trans List.getElem?_toArray rfl) (fun K hK => ?s63x14) AllReadyH.nil
        go_simp
        (first | (go_at_call 18; refine (HN.out _).mono ?_; rintro e w' ⟨rfl, hb⟩; have hs' := sorts_step (by assumption) hb; clear hb) | (go_at_call 19; refine (HF.out _).mono ?_; rintro e w' ⟨rr, hrr, rfl, hb⟩; obtain rfl := HFI.out _ hrr; clear hrr; have hs' := sorts_step (by assumption) hb; clear hb) | (go_at_call 20; refine (HWI.out _).mono ?_; rintro e w' ⟨rfl, hb⟩; have hs' := sorts_step (by assumption) hb; clear hb) | (go_at_call 21; refine (HWR.out _).mono ?_; rintro e w' ⟨rfl, hb⟩; have hs' := sorts_step (by assumption) hb; clear hb) | (go_at_call 22; refine (HL.out _).mono ?_; rintro e w' ⟨rfl, hb⟩; have hs' := sorts_step (by assumption) hb; clear hb) | (go_at_call 23; refine (HS.out _).mono ?_; rintro e w' ⟨rfl, hb⟩; have hs' := sorts_step (by assumption) hb; clear hb) | (go_at_call 24; refine (HB.out _).mono ?_; rintro e w' ⟨rfl, hb⟩; have hs' := sorts_step (by assumption) hb; clear hb) | (go_at_call 25; refine (HA.out _).mono ?_; rintro e w' ⟨rfl, hb⟩; have hs' := sorts_step (by assumption) hb; clear hb) | (go_at_call 26; refine (HY.out _).mono ?_; rintro e w' ⟨rfl, hb⟩; have hs' := sorts_step (by assumption) hb; clear hb))
        go_wp2_with fail
        refine hK.out _ _ (by first | assumption | (dsimp only; assumption)) ?_
        clear hK K hHeld hs'
        intro hHeld
        try simp only [Act.put, List.setIfInBounds_toArray, List.set_cons_zero, List.set_cons_succ]
        refine wpAnyH_take (i := 20) (v := ?v67x14) (Eq.trans List.getElem?_toArray rfl) (by kernel_rfl) (by kernel_rfl) (by kernel_rfl) (fun _ _ _ h => h) (Or.inl ⟨by rfl, ?y67x14⟩) (by assumption) ?r67x14
        case y67x14 => intro w hSw; (try dsimp only at hSw); go_simp; try with_reducible rfl
        try simp only [Act.put, List.setIfInBounds_toArray, List.set_cons_zero, List.set_cons_succ]
        refine wpAnyH_take (i := 21) (v := ?v68x14) (Eq.trans List.getElem?_toArray rfl) (by kernel_rfl) (by kernel_rfl) (by kernel_rfl) (fun _ _ _ h => h) (Or.inl ⟨by rfl, ?y68x14⟩) (by assumption) ?r68x14
        case y68x14 => intro w hSw; (try dsimp only at hSw); go_simp; try with_reducible rfl
        try simp only [Act.put, List.setIfInBounds_toArray, List.set_cons_zero, List.set_cons_succ]
        refine wpAnyH_take (i := 22) (v := ?v69x14) (Eq.trans List.getElem?_toArray rfl) (by kernel_rfl) (by kernel_rfl) (by kernel_rfl) (fun _ _ _ h => h) (Or.inl ⟨by rfl, ?y69x14⟩) (by assumption) ?r69x14
        case y69x14 => intro w hSw; (try dsimp only at hSw); go_simp; try with_reducible rfl
        try simp only [Act.put, List.setIfInBounds_toArray, List.set_cons_zero, List.set_cons_succ]
        refine wpAnyH_take (i := 23) (v := ?v70x14) (Eq.trans List.getElem?_toArray rfl) (by kernel_rfl) (by kernel_rfl) (by kernel_rfl) (fun _ _ _ h => h) (Or.inl ⟨by rfl, ?y70x14⟩) (by assumption) ?r70x14
        case y70x14 => intro w hSw; (try dsimp only at hSw); go_simp; try with_reducible rfl
        try simp only [Act.put, List.setIfInBounds_toArray, List.set_cons_zero, List.set_cons_succ]
        refine wpAnyH_take (i := 25) (v := ?v72x14) (Eq.trans List.getElem?_toArray rfl) (by kernel_rfl) (by kernel_rfl) (by kernel_rfl) (fun _ _ _ h => h) (Or.inl ⟨by rfl, ?y72x14⟩) (by assumption) ?r72x14
        case y72x14 => intro w hSw; (try dsimp only at hSw); go_simp; try with_reducible rfl
        try simp only [Act.put, List.setIfInBounds_toArray, List.set_cons_zero, List.set_cons_succ]
        refine wpAnyH_take (i := 26) (v := ?v73x14) (Eq.trans List.getElem?_toArray rfl) (by kernel_rfl) (by kernel_rfl) (by kernel_rfl) (fun _ _ _ h => h) (Or.inl ⟨by rfl, ?y73x14⟩) (by assumption) ?r73x14
        case y73x14 => intro w hSw; (try dsimp only at hSw); go_simp; try with_reducible rfl
        try simp only [Act.put, List.setIfInBounds_toArray, List.set_cons_zero, List.set_cons_succ]
        refine wpAnyH_take (i := 27) (v := ?v74x14) (Eq.trans List.getElem?_toArray rfl) (by kernel_rfl) (by kernel_rfl) (by kernel_rfl) (fun _ _ _ h => h) (Or.inl ⟨by rfl, ?y74x14⟩) (by assumption) ?r74x14
        case y74x14 => intro w hSw; (try dsimp only at hSw); go_simp; try with_reducible rfl
        try simp only [Act.put, List.setIfInBounds_toArray, List.set_cons_zero, List.set_cons_succ]
        refine wpAnyH_ready (rs := [24]) (by kernel_rfl) (by simp) ?_
        refine AllReadyH.cons (Eq.trans List.getElem?_toArray rfl) (fun K hK => ?s71x14) AllReadyH.nil
        go_simp
        (first | (go_at_call 18; refine (HN.out _).mono ?_; rintro e w' ⟨rfl, hb⟩; have hs' := sorts_step (by assumption) hb; clear hb) | (go_at_call 19; refine (HF.out _).mono ?_; rintro e w' ⟨rr, hrr, rfl, hb⟩; obtain rfl := HFI.out _ hrr; clear hrr; have hs' := sorts_step (by assumption) hb; clear hb) | (go_at_call 20; refine (HWI.out _).mono ?_; rintro e w' ⟨rfl, hb⟩; have hs' := sorts_step (by assumption) hb; clear hb) | (go_at_call 21; refine (HWR.out _).mono ?_; rintro e w' ⟨rfl, hb⟩; have hs' := sorts_step (by assumption) hb; clear hb) | (go_at_call 22; refine (HL.out _).mono ?_; rintro e w' ⟨rfl, hb⟩; have hs' := sorts_step (by assumption) hb; clear hb) | (go_at_call 23; refine (HS.out _).mono ?_; rintro e w' ⟨rfl, hb⟩; have hs' := sorts_step (by assumption) hb; clear hb) | (go_at_call 24; refine (HB.out _).mono ?_; rintro e w' ⟨rfl, hb⟩; have hs' := sorts_step (by assumption) hb; clear hb) | (go_at_call 25; refine (HA.out _).mono ?_; rintro e w' ⟨rfl, hb⟩; have hs' := sorts_step (by assumption) hb; clear hb) | (go_at_call 26; refine (HY.out _).mono ?_; rintro e w' ⟨rfl, hb⟩; have hs' := sorts_step (by assumption) hb; clear hb))
        go_wp2_with fail
        refine hK.out _ _ (by first | assumption | (dsimp only; assumption)) ?_
        clear hK K hHeld hs'
        intro hHeld
        try simp only [Act.put, List.setIfInBounds_toArray, List.set_cons_zero, List.set_cons_succ]
        refine wpAnyH_take (i := 28) (v := ?v75x14) (Eq.trans List.getElem?_toArray rfl) (by kernel_rfl) (by kernel_rfl) (by kernel_rfl) (fun _ _ _ h => h) (Or.inl ⟨by rfl, ?y75x14⟩) (by assumption) ?r75x14
        case y75x14 => intro w hSw; (try dsimp only at hSw); go_simp; try with_reducible rfl
        try simp only [Act.put, List.setIfInBounds_toArray, List.set_cons_zero, List.set_cons_succ]
        refine wpAnyH_take (i := 29) (v := undef) (Eq.trans List.getElem?_toArray rfl) (by kernel_rfl) (by kernel_rfl) (by kernel_rfl) (fun _ _ _ h => h) (Or.inr ⟨by rfl, rfl⟩) (by assumption) ?_
        try simp only [Act.put, List.setIfInBounds_toArray, List.set_cons_zero, List.set_cons_succ]
        refine wpAnyH_take (i := 30) (v := undef) (Eq.trans List.getElem?_toArray rfl) (by kernel_rfl) (by kernel_rfl) (by kernel_rfl) (fun _ _ _ h => h) (Or.inr ⟨by rfl, rfl⟩) (by assumption) ?_
        try simp only [Act.put, List.setIfInBounds_toArray, List.set_cons_zero, List.set_cons_succ]
        refine wpAnyH_take (i := 31) (v := undef) (Eq.trans List.getElem?_toArray rfl) (by kernel_rfl) (by kernel_rfl) (by kernel_rfl) (fun _ _ _ h => h) (Or.inr ⟨by rfl, rfl⟩) (by assumption) ?_
        try simp only [Act.put, List.setIfInBounds_toArray, List.set_cons_zero, List.set_cons_succ]
        refine wpAnyH_take (i := 32) (v := ?v79x14) (Eq.trans List.getElem?_toArray rfl) (by kernel_rfl) (by kernel_rfl) (by kernel_rfl) (fun _ _ _ h => h) (Or.inl ⟨by rfl, ?y79x14⟩) (by assumption) ?r79x14
        case y79x14 => intro w hSw; (try dsimp only at hSw); go_simp; try with_reducible rfl
        try simp only [Act.put, List.setIfInBounds_toArray, List.set_cons_zero, List.set_cons_succ]
        refine wpAnyH_take (i := 33) (v := ?v80x14) (Eq.trans List.getElem?_toArray rfl) (by kernel_rfl) (by kernel_rfl) (by kernel_rfl) (fun _ _ _ h => h) (Or.inl ⟨by rfl, ?y80x14⟩) (by assumption) ?r80x14
        case y80x14 => intro w hSw; (try dsimp only at hSw); go_simp; try with_reducible rfl
        try simp only [Act.put, List.setIfInBounds_toArray, List.set_cons_zero, List.set_cons_succ]
        refine wpAnyH_take (i := 34) (v := ?v81x14) (Eq.trans List.getElem?_toArray rfl) (by kernel_rfl) (by kernel_rfl) (by kernel_rfl) (fun _ _ _ h => h) (Or.inl ⟨by rfl, ?y81x14⟩) (by assumption) ?r81x14
        case y81x14 => intro w hSw; (try dsimp only at hSw); go_simp; try with_reducible rfl
        try simp only [Act.put, List.setIfInBounds_toArray, List.set_cons_zero, List.set_cons_succ]
        refine wpAnyH_take (i := 35) (v := ?v82x14) (Eq.trans List.getElem?_toArray rfl) (by kernel_rfl) (by kernel_rfl) (by kernel_rfl) (fun _ _ _ h => h) (Or.inl ⟨by rfl, ?y82x14⟩) (by assumption) ?r82x14
        case y82x14 => intro w hSw; (try dsimp only at hSw); go_simp; try with_reducible rfl
        try simp only [Act.put, List.setIfInBounds_toArray, List.set_cons_zero, List.set_cons_succ]
        refine wpAnyH_take (i := 36) (v := ?v83x14) (Eq.trans List.getElem?_toArray rfl) (by kernel_rfl) (by kernel_rfl) (by kernel_rfl) (fun _ _ _ h => h) (Or.inl ⟨by rfl, ?y83x14⟩) (by assumption) ?r83x14
        case y83x14 => intro w hSw; (try dsimp only at hSw); go_simp; try with_reducible rfl
        try simp only [Act.put, List.setIfInBounds_toArray, List.set_cons_zero, List.set_cons_succ]
        refine wpAnyH_take (i := 38) (v := ?v85x14) (Eq.trans List.getElem?_toArray rfl) (by kernel_rfl) (by kernel_rfl) (by kernel_rfl) (fun _ _ _ h => h) (Or.inl ⟨by rfl, ?y85x14⟩) (by assumption) ?r85x14
        case y85x14 => intro w hSw; (try dsimp only at hSw); go_simp; try with_reducible rfl
        try simp only [Act.put, List.setIfInBounds_toArray, List.set_cons_zero, List.set_cons_succ]
        refine wpAnyH_take (i := 39) (v := ?v86x14) (Eq.trans List.getElem?_toArray rfl) (by kernel_rfl) (by kernel_rfl) (by kernel_rfl) (fun _ _ _ h => h) (Or.inl ⟨by rfl, ?y86x14⟩) (by assumption) ?r86x14
        case y86x14 => intro w hSw; (try dsimp only at hSw); go_simp; try with_reducible rfl
        try simp only [Act.put, List.setIfInBounds_toArray, List.set_cons_zero, List.set_cons_succ]
        refine wpAnyH_take (i := 40) (v := ?v87x14) (Eq.trans List.getElem?_toArray rfl) (by kernel_rfl) (by kernel_rfl) (by kernel_rfl) (fun _ _ _ h => h) (Or.inl ⟨by rfl, ?y87x14⟩) (by assumption) ?r87x14
        case y87x14 => intro w hSw; (try dsimp only at hSw); go_simp; try with_reducible rfl
        try simp only [Act.put, List.setIfInBounds_toArray, List.set_cons_zero, List.set_cons_succ]
        refine wpAnyH_ready (rs := [37]) (by kernel_rfl) (by simp) ?_
        refine AllReadyH.cons (Eq.trans List.getElem?_toArray rfl) (fun K hK => ?s84x14) AllReadyH.nil
        go_simp
        (first | (go_at_call 18; refine (HN.out _).mono ?_; rintro e w' ⟨rfl, hb⟩; have hs' := sorts_step (by assumption) hb; clear hb) | (go_at_call 19; refine (HF.out _).mono ?_; rintro e w' ⟨rr, hrr, rfl, hb⟩; obtain rfl := HFI.out _ hrr; clear hrr; have hs' := sorts_step (by assumption) hb; clear hb) | (go_at_call 20; refine (HWI.out _).mono ?_; rintro e w' ⟨rfl, hb⟩; have hs' := sorts_step (by assumption) hb; clear hb) | (go_at_call 21; refine (HWR.out _).mono ?_; rintro e w' ⟨rfl, hb⟩; have hs' := sorts_step (by assumption) hb; clear hb) | (go_at_call 22; refine (HL.out _).mono ?_; rintro e w' ⟨rfl, hb⟩; have hs' := sorts_step (by assumption) hb; clear hb) | (go_at_call 23; refine (HS.out _).mono ?_; rintro e w' ⟨rfl, hb⟩; have hs' := sorts_step (by assumption) hb; clear hb) | (go_at_call 24; refine (HB.out _).mono ?_; rintro e w' ⟨rfl, hb⟩; have hs' := sorts_step (by assumption) hb; clear hb) | (go_at_call 25; refine (HA.out _).mono ?_; rintro e w' ⟨rfl, hb⟩; have hs' := sorts_step (by assumption) hb; clear hb) | (go_at_call 26; refine (HY.out _).mono ?_; rintro e w' ⟨rfl, hb⟩; have hs' := sorts_step (by assumption) hb; clear hb))
        go_wp2_with fail
        refine hK.out _ _ (by first | assumption | (dsimp only; assumption)) ?_
        clear hK K hHeld hs'
        intro hHeld
        try simp only [Act.put, List.setIfInBounds_toArray, List.set_cons_zero, List.set_cons_succ]
        refine wpAnyH_take (i := 41) (v := ?v88x14) (Eq.trans List.getElem?_toArray rfl) (by kernel_rfl) (by kernel_rfl) (by kernel_rfl) (fun _ _ _ h => h) (Or.inl ⟨by rfl, ?y88x14⟩) (by assumption) ?r88x14
        case y88x14 => intro w hSw; (try dsimp only at hSw); go_simp; try with_reducible rfl
        try simp only [Act.put, List.setIfInBounds_toArray, List.set_cons_zero, List.set_cons_succ]
        refine wpAnyH_take (i := 42) (v := ?v89x14) (Eq.trans List.getElem?_toArray rfl) (by kernel_rfl) (by kernel_rfl) (by kernel_rfl) (fun _ _ _ h => h) (Or.inl ⟨by rfl, ?y89x14⟩) (by assumption) ?r89x14
        case y89x14 => intro w hSw; (try dsimp only at hSw); go_simp; try with_reducible rfl
        try simp only [Act.put, List.setIfInBounds_toArray, List.set_cons_zero, List.set_cons_succ]
        refine wpAnyH_take (i := 43) (v := ?v90x14) (Eq.trans List.getElem?_toArray rfl) (by kernel_rfl) (by kernel_rfl) (by kernel_rfl) (fun _ _ _ h => h) (Or.inl ⟨by rfl, ?y90x14⟩) (by assumption) ?r90x14
        case y90x14 => intro w hSw; (try dsimp only at hSw); go_simp; try with_reducible rfl
        try simp only [Act.put, List.setIfInBounds_toArray, List.set_cons_zero, List.set_cons_succ]
        refine wpAnyH_take (i := 44) (v := ?v91x14) (Eq.trans List.getElem?_toArray rfl) (by kernel_rfl) (by kernel_rfl) (by kernel_rfl) (fun _ _ _ h => h) (Or.inl ⟨by rfl, ?y91x14⟩) (by assumption) ?r91x14
        case y91x14 => intro w hSw; (try dsimp only at hSw); go_simp; try with_reducible rfl
        try simp only [Act.put, List.setIfInBounds_toArray, List.set_cons_zero, List.set_cons_succ]
        refine wpAnyH_take (i := 45) (v := ?v92x14) (Eq.trans List.getElem?_toArray rfl) (by kernel_rfl) (by kernel_rfl) (by kernel_rfl) (fun _ _ _ h => h) (Or.inl ⟨by rfl, ?y92x14⟩) (by assumption) ?r92x14
        case y92x14 => intro w hSw; (try dsimp only at hSw); go_simp; try with_reducible rfl
        try simp only [Act.put, List.setIfInBounds_toArray, List.set_cons_zero, List.set_cons_succ]
        refine wpAnyH_take (i := 46) (v := ?v93x14) (Eq.trans List.getElem?_toArray rfl) (by kernel_rfl) (by kernel_rfl) (by kernel_rfl) (fun _ _ _ h => h) (Or.inl ⟨by rfl, ?y93x14⟩) (by assumption) ?r93x14
        case y93x14 => intro w hSw; (try dsimp only at hSw); go_simp; try with_reducible rfl
        try simp only [Act.put, List.setIfInBounds_toArray, List.set_cons_zero, List.set_cons_succ]
        refine wpAnyH_take (i := 47) (v := ?v94x14) (Eq.trans List.getElem?_toArray rfl) (by kernel_rfl) (by kernel_rfl) (by kernel_rfl) (fun _ _ _ h => h) (Or.inl ⟨by rfl, ?y94x14⟩) (by assumption) ?r94x14
        case y94x14 => intro w hSw; (try dsimp only at hSw); go_simp; try with_reducible rfl
        try simp only [Act.put, List.setIfInBounds_toArray, List.set_cons_zero, List.set_cons_succ]
        refine wpAnyH_take (i := 48) (v := ?v95x14) (Eq.trans List.getElem?_toArray rfl) (by kernel_rfl) (by kernel_rfl) (by kernel_rfl) (fun _ _ _ h => h) (Or.inl ⟨by rfl, ?y95x14⟩) (by assumption) ?r95x14
        case y95x14 => intro w hSw; (try dsimp only at hSw); go_simp; try with_reducible rfl
        try simp only [Act.put, List.setIfInBounds_toArray, List.set_cons_zero, List.set_cons_succ]
        refine wpAnyH_done (by kernel_rfl) ?_ _
        refine NoPanic.normal ?_
        go_wp2_with fail
        go_ret
        exact ⟨rfl, (‹w'.cell? ⟨w2.heap.size, 0, none⟩ = some (.string rn) ∧ w'.cell? ⟨w2.heap.size, 1, none⟩ = some (.int .i64 14) ∧ w2.heap.size < w'.heap.size ∧ Below w.heap.size w w'›).2.2.2⟩
      · subst form
        simp only [Int.reduceBEq, Bool.true_or, Bool.or_true, Bool.false_or, Bool.or_false] at HL HS HB HA HY
        refine wp_region_noPanic ?_
        refine wp_region_held_drew (S := (fun w' => w'.cell? ⟨w2.heap.size, 0, none⟩ = some (.string rn) ∧ w'.cell? ⟨w2.heap.size, 1, none⟩ = some (.int .i64 12) ∧ w2.heap.size < w'.heap.size ∧ Below w.heap.size w w')) (by kernel_rfl) ⟨by go_keep, by go_keep, by simp only [heap_drew]; assumption, by apply Below.drew; assumption⟩ (fun hHeld => ?_)
        clear j0 j1 j2 j3
        refine wpAnyH_take (i := 0) (v := ?v47x12) (Eq.trans List.getElem?_toArray rfl) (by kernel_rfl) (by kernel_rfl) (by kernel_rfl) (fun _ _ _ h => h) (Or.inl ⟨by rfl, ?y47x12⟩) (by assumption) ?r47x12
        case y47x12 => intro w hSw; (try dsimp only at hSw); go_simp; try with_reducible rfl
        try simp only [Act.put, List.setIfInBounds_toArray, List.set_cons_zero, List.set_cons_succ]
        refine wpAnyH_take (i := 2) (v := ?v49x12) (Eq.trans List.getElem?_toArray rfl) (by kernel_rfl) (by kernel_rfl) (by kernel_rfl) (fun _ _ _ h => h) (Or.inl ⟨by rfl, ?y49x12⟩) (by assumption) ?r49x12
        case y49x12 => intro w hSw; (try dsimp only at hSw); go_simp; try with_reducible rfl
        try simp only [Act.put, List.setIfInBounds_toArray, List.set_cons_zero, List.set_cons_succ]
        refine wpAnyH_take (i := 3) (v := ?v50x12) (Eq.trans List.getElem?_toArray rfl) (by kernel_rfl) (by kernel_rfl) (by kernel_rfl) (fun _ _ _ h => h) (Or.inl ⟨by rfl, ?y50x12⟩) (by assumption) ?r50x12
        case y50x12 => intro w hSw; (try dsimp only at hSw); go_simp; try with_reducible rfl
        try simp only [Act.put, List.setIfInBounds_toArray, List.set_cons_zero, List.set_cons_succ]
        refine wpAnyH_take (i := 4) (v := ?v51x12) (Eq.trans List.getElem?_toArray rfl) (by kernel_rfl) (by kernel_rfl) (by kernel_rfl) (fun _ _ _ h => h) (Or.inl ⟨by rfl, ?y51x12⟩) (by assumption) ?r51x12
        case y51x12 => intro w hSw; (try dsimp only at hSw); go_simp; try with_reducible rfl
        try simp only [Act.put, List.setIfInBounds_toArray, List.set_cons_zero, List.set_cons_succ]
        refine wpAnyH_ready (rs := [1]) (by kernel_rfl) (by simp) ?_
        refine AllReadyH.cons (Eq.trans List.getElem?_toArray rfl) (fun K hK => ?s48x12) AllReadyH.nil
        go_simp
        (first | (go_at_call 18; refine (HN.out _).mono ?_; rintro e w' ⟨rfl, hb⟩; have hs' := sorts_step (by assumption) hb; clear hb) | (go_at_call 19; refine (HF.out _).mono ?_; rintro e w' ⟨rr, hrr, rfl, hb⟩; obtain rfl := HFI.out _ hrr; clear hrr; have hs' := sorts_step (by assumption) hb; clear hb) | (go_at_call 20; refine (HWI.out _).mono ?_; rintro e w' ⟨rfl, hb⟩; have hs' := sorts_step (by assumption) hb; clear hb) | (go_at_call 21; refine (HWR.out _).mono ?_; rintro e w' ⟨rfl, hb⟩; have hs' := sorts_step (by assumption) hb; clear hb) | (go_at_call 22; refine (HL.out _).mono ?_; rintro e w' ⟨rfl, hb⟩; have hs' := sorts_step (by assumption) hb; clear hb) | (go_at_call 23; refine (HS.out _).mono ?_; rintro e w' ⟨rfl, hb⟩; have hs' := sorts_step (by assumption) hb; clear hb) | (go_at_call 24; refine (HB.out _).mono ?_; rintro e w' ⟨rfl, hb⟩; have hs' := sorts_step (by assumption) hb; clear hb) | (go_at_call 25; refine (HA.out _).mono ?_; rintro e w' ⟨rfl, hb⟩; have hs' := sorts_step (by assumption) hb; clear hb) | (go_at_call 26; refine (HY.out _).mono ?_; rintro e w' ⟨rfl, hb⟩; have hs' := sorts_step (by assumption) hb; clear hb))
        go_wp2_with fail
        refine hK.out _ _ (by first | assumption | (dsimp only; assumption)) ?_
        clear hK K hHeld hs'
        intro hHeld
        try simp only [Act.put, List.setIfInBounds_toArray, List.set_cons_zero, List.set_cons_succ]
        refine wpAnyH_take (i := 5) (v := ?v52x12) (Eq.trans List.getElem?_toArray rfl) (by kernel_rfl) (by kernel_rfl) (by kernel_rfl) (fun _ _ _ h => h) (Or.inl ⟨by rfl, ?y52x12⟩) (by assumption) ?r52x12
        case y52x12 => intro w hSw; (try dsimp only at hSw); go_simp; try with_reducible rfl
        try simp only [Act.put, List.setIfInBounds_toArray, List.set_cons_zero, List.set_cons_succ]
        refine wpAnyH_take (i := 6) (v := ?v53x12) (Eq.trans List.getElem?_toArray rfl) (by kernel_rfl) (by kernel_rfl) (by kernel_rfl) (fun _ _ _ h => h) (Or.inl ⟨by rfl, ?y53x12⟩) (by assumption) ?r53x12
        case y53x12 => intro w hSw; (try dsimp only at hSw); go_simp; try with_reducible rfl
        try simp only [Act.put, List.setIfInBounds_toArray, List.set_cons_zero, List.set_cons_succ]
        refine wpAnyH_take (i := 7) (v := ?v54x12) (Eq.trans List.getElem?_toArray rfl) (by kernel_rfl) (by kernel_rfl) (by kernel_rfl) (fun _ _ _ h => h) (Or.inl ⟨by rfl, ?y54x12⟩) (by assumption) ?r54x12
        case y54x12 => intro w hSw; (try dsimp only at hSw); go_simp; try with_reducible rfl
        try simp only [Act.put, List.setIfInBounds_toArray, List.set_cons_zero, List.set_cons_succ]
        refine wpAnyH_take (i := 9) (v := ?v56x12) (Eq.trans List.getElem?_toArray rfl) (by kernel_rfl) (by kernel_rfl) (by kernel_rfl) (fun _ _ _ h => h) (Or.inl ⟨by rfl, ?y56x12⟩) (by assumption) ?r56x12
        case y56x12 => intro w hSw; (try dsimp only at hSw); go_simp; try with_reducible rfl
        try simp only [Act.put, List.setIfInBounds_toArray, List.set_cons_zero, List.set_cons_succ]
        refine wpAnyH_take (i := 10) (v := ?v57x12) (Eq.trans List.getElem?_toArray rfl) (by kernel_rfl) (by kernel_rfl) (by kernel_rfl) (fun _ _ _ h => h) (Or.inl ⟨by rfl, ?y57x12⟩) (by assumption) ?r57x12
        case y57x12 => intro w hSw; (try dsimp only at hSw); go_simp; try with_reducible rfl
        try simp only [Act.put, List.setIfInBounds_toArray, List.set_cons_zero, List.set_cons_succ]
        refine wpAnyH_take (i := 11) (v := ?v58x12) (Eq.trans List.getElem?_toArray rfl) (by kernel_rfl) (by kernel_rfl) (by kernel_rfl) (fun _ _ _ h => h) (Or.inl ⟨by rfl, ?y58x12⟩) (by assumption) ?r58x12
        case y58x12 => intro w hSw; (try dsimp only at hSw); go_simp; try with_reducible rfl
        try simp only [Act.put, List.setIfInBounds_toArray, List.set_cons_zero, List.set_cons_succ]
        refine wpAnyH_ready (rs := [8]) (by kernel_rfl) (by simp) ?_
        refine AllReadyH.cons (Eq.trans List.getElem?_toArray rfl) (fun K hK => ?s55x12) AllReadyH.nil
        go_simp
        (first | (go_at_call 18; refine (HN.out _).mono ?_; rintro e w' ⟨rfl, hb⟩; have hs' := sorts_step (by assumption) hb; clear hb) | (go_at_call 19; refine (HF.out _).mono ?_; rintro e w' ⟨rr, hrr, rfl, hb⟩; obtain rfl := HFI.out _ hrr; clear hrr; have hs' := sorts_step (by assumption) hb; clear hb) | (go_at_call 20; refine (HWI.out _).mono ?_; rintro e w' ⟨rfl, hb⟩; have hs' := sorts_step (by assumption) hb; clear hb) | (go_at_call 21; refine (HWR.out _).mono ?_; rintro e w' ⟨rfl, hb⟩; have hs' := sorts_step (by assumption) hb; clear hb) | (go_at_call 22; refine (HL.out _).mono ?_; rintro e w' ⟨rfl, hb⟩; have hs' := sorts_step (by assumption) hb; clear hb) | (go_at_call 23; refine (HS.out _).mono ?_; rintro e w' ⟨rfl, hb⟩; have hs' := sorts_step (by assumption) hb; clear hb) | (go_at_call 24; refine (HB.out _).mono ?_; rintro e w' ⟨rfl, hb⟩; have hs' := sorts_step (by assumption) hb; clear hb) | (go_at_call 25; refine (HA.out _).mono ?_; rintro e w' ⟨rfl, hb⟩; have hs' := sorts_step (by assumption) hb; clear hb) | (go_at_call 26; refine (HY.out _).mono ?_; rintro e w' ⟨rfl, hb⟩; have hs' := sorts_step (by assumption) hb; clear hb))
        go_wp2_with fail
        refine hK.out _ _ (by first | assumption | (dsimp only; assumption)) ?_
        clear hK K hHeld hs'
        intro hHeld
        try simp only [Act.put, List.setIfInBounds_toArray, List.set_cons_zero, List.set_cons_succ]
        refine wpAnyH_take (i := 12) (v := ?v59x12) (Eq.trans List.getElem?_toArray rfl) (by kernel_rfl) (by kernel_rfl) (by kernel_rfl) (fun _ _ _ h => h) (Or.inl ⟨by rfl, ?y59x12⟩) (by assumption) ?r59x12
        case y59x12 => intro w hSw; (try dsimp only at hSw); go_simp; try with_reducible rfl
        try simp only [Act.put, List.setIfInBounds_toArray, List.set_cons_zero, List.set_cons_succ]
        refine wpAnyH_take (i := 13) (v := ?v60x12) (Eq.trans List.getElem?_toArray rfl) (by kernel_rfl) (by kernel_rfl) (by kernel_rfl) (fun _ _ _ h => h) (Or.inl ⟨by rfl, ?y60x12⟩) (by assumption) ?r60x12
        case y60x12 => intro w hSw; (try dsimp only at hSw); go_simp; try with_reducible rfl
        try simp only [Act.put, List.setIfInBounds_toArray, List.set_cons_zero, List.set_cons_succ]
        refine wpAnyH_take (i := 14) (v := ?v61x12) (Eq.trans List.getElem?_toArray rfl) (by kernel_rfl) (by kernel_rfl) (by kernel_rfl) (fun _ _ _ h => h) (Or.inl ⟨by rfl, ?y61x12⟩) (by assumption) ?r61x12
        case y61x12 => intro w hSw; (try dsimp only at hSw); go_simp; try with_reducible rfl
        try simp only [Act.put, List.setIfInBounds_toArray, List.set_cons_zero, List.set_cons_succ]
        refine wpAnyH_take (i := 15) (v := ?v62x12) (Eq.trans List.getElem?_toArray rfl) (by kernel_rfl) (by kernel_rfl) (by kernel_rfl) (fun _ _ _ h => h) (Or.inl ⟨by rfl, ?y62x12⟩) (by assumption) ?r62x12
        case y62x12 => intro w hSw; (try dsimp only at hSw); go_simp; try with_reducible rfl
        try simp only [Act.put, List.setIfInBounds_toArray, List.set_cons_zero, List.set_cons_succ]
        refine wpAnyH_take (i := 17) (v := ?v64x12) (Eq.trans List.getElem?_toArray rfl) (by kernel_rfl) (by kernel_rfl) (by kernel_rfl) (fun _ _ _ h => h) (Or.inl ⟨by rfl, ?y64x12⟩) (by assumption) ?r64x12
        case y64x12 => intro w hSw; (try dsimp only at hSw); go_simp; try with_reducible rfl
        try simp only [Act.put, List.setIfInBounds_toArray, List.set_cons_zero, List.set_cons_succ]
        refine wpAnyH_take (i := 18) (v := ?v65x12) (Eq.trans List.getElem?_toArray rfl) (by kernel_rfl) (by kernel_rfl) (by kernel_rfl) (fun _ _ _ h => h) (Or.inl ⟨by rfl, ?y65x12⟩) (by assumption) ?r65x12
        case y65x12 => intro w hSw; (try dsimp only at hSw); go_simp; try with_reducible rfl
        try simp only [Act.put, List.setIfInBounds_toArray, List.set_cons_zero, List.set_cons_succ]
        refine wpAnyH_take (i := 19) (v := ?v66x12) (Eq.trans List.getElem?_toArray rfl) (by kernel_rfl) (by kernel_rfl) (by kernel_rfl) (fun _ _ _ h => h) (Or.inl ⟨by rfl, ?y66x12⟩) (by assumption) ?r66x12
        case y66x12 => intro w hSw; (try dsimp only at hSw); go_simp; try with_reducible rfl
        try simp only [Act.put, List.setIfInBounds_toArray, List.set_cons_zero, List.set_cons_succ]
        refine wpAnyH_ready (rs := [16]) (by kernel_rfl) (by simp) ?_
        refine AllReadyH.cons (Eq.trans List.getElem?_toArray rfl) (fun K hK => ?s63x12) AllReadyH.nil
        go_simp
        (first | (go_at_call 18; refine (HN.out _).mono ?_; rintro e w' ⟨rfl, hb⟩; have hs' := sorts_step (by assumption) hb; clear hb) | (go_at_call 19; refine (HF.out _).mono ?_; rintro e w' ⟨rr, hrr, rfl, hb⟩; obtain rfl := HFI.out _ hrr; clear hrr; have hs' := sorts_step (by assumption) hb; clear hb) | (go_at_call 20; refine (HWI.out _).mono ?_; rintro e w' ⟨rfl, hb⟩; have hs' := sorts_step (by assumption) hb; clear hb) | (go_at_call 21; refine (HWR.out _).mono ?_; rintro e w' ⟨rfl, hb⟩; have hs' := sorts_step (by assumption) hb; clear hb) | (go_at_call 22; refine (HL.out _).mono ?_; rintro e w' ⟨rfl, hb⟩; have hs' := sorts_step (by assumption) hb; clear hb) | (go_at_call 23; refine (HS.out _).mono ?_; rintro e w' ⟨rfl, hb⟩; have hs' := sorts_step (by assumption) hb; clear hb) | (go_at_call 24; refine (HB.out _).mono ?_; rintro e w' ⟨rfl, hb⟩; have hs' := sorts_step (by assumption) hb; clear hb) | (go_at_call 25; refine (HA.out _).mono ?_; rintro e w' ⟨rfl, hb⟩; have hs' := sorts_step (by assumption) hb; clear hb) | (go_at_call 26; refine (HY.out _).mono ?_; rintro e w' ⟨rfl, hb⟩; have hs' := sorts_step (by assumption) hb; clear hb))
        go_wp2_with fail
        refine hK.out _ _ (by first | assumption | (dsimp only; assumption)) ?_
        clear hK K hHeld hs'
        intro hHeld
        try simp only [Act.put, List.setIfInBounds_toArray, List.set_cons_zero, List.set_cons_succ]
        refine wpAnyH_take (i := 20) (v := ?v67x12) (Eq.trans List.getElem?_toArray rfl) (by kernel_rfl) (by kernel_rfl) (by kernel_rfl) (fun _ _ _ h => h) (Or.inl ⟨by rfl, ?y67x12⟩) (by assumption) ?r67x12
        case y67x12 => intro w hSw; (try dsimp only at hSw); go_simp; try with_reducible rfl
        try simp only [Act.put, List.setIfInBounds_toArray, List.set_cons_zero, List.set_cons_succ]
        refine wpAnyH_take (i := 21) (v := ?v68x12) (Eq.trans List.getElem?_toArray rfl) (by kernel_rfl) (by kernel_rfl) (by kernel_rfl) (fun _ _ _ h => h) (Or.inl ⟨by rfl, ?y68x12⟩) (by assumption) ?r68x12
        case y68x12 => intro w hSw; (try dsimp only at hSw); go_simp; try with_reducible rfl
        try simp only [Act.put, List.setIfInBounds_toArray, List.set_cons_zero, List.set_cons_succ]
        refine wpAnyH_take (i := 22) (v := ?v69x12) (Eq.trans List.getElem?_toArray rfl) (by kernel_rfl) (by kernel_rfl) (by kernel_rfl) (fun _ _ _ h => h) (Or.inl ⟨by rfl, ?y69x12⟩) (by assumption) ?r69x12
        case y69x12 => intro w hSw; (try dsimp only at hSw); go_simp; try with_reducible rfl
        try simp only [Act.put, List.setIfInBounds_toArray, List.set_cons_zero, List.set_cons_succ]
        refine wpAnyH_take (i := 23) (v := ?v70x12) (Eq.trans List.getElem?_toArray rfl) (by kernel_rfl) (by kernel_rfl) (by kernel_rfl) (fun _ _ _ h => h) (Or.inl ⟨by rfl, ?y70x12⟩) (by assumption) ?r70x12
        case y70x12 => intro w hSw; (try dsimp only at hSw); go_simp; try with_reducible rfl
        try simp only [Act.put, List.setIfInBounds_toArray, List.set_cons_zero, List.set_cons_succ]
        refine wpAnyH_take (i := 25) (v := ?v72x12) (Eq.trans List.getElem?_toArray rfl) (by kernel_rfl) (by kernel_rfl) (by kernel_rfl) (fun _ _ _ h => h) (Or.inl ⟨by rfl, ?y72x12⟩) (by assumption) ?r72x12
        case y72x12 => intro w hSw; (try dsimp only at hSw); go_simp; try with_reducible rfl
        try simp only [Act.put, List.setIfInBounds_toArray, List.set_cons_zero, List.set_cons_succ]
        refine wpAnyH_take (i := 26) (v := ?v73x12) (Eq.trans List.getElem?_toArray rfl) (by kernel_rfl) (by kernel_rfl) (by kernel_rfl) (fun _ _ _ h => h) (Or.inl ⟨by rfl, ?y73x12⟩) (by assumption) ?r73x12
        case y73x12 => intro w hSw; (try dsimp only at hSw); go_simp; try with_reducible rfl
        try simp only [Act.put, List.setIfInBounds_toArray, List.set_cons_zero, List.set_cons_succ]
        refine wpAnyH_take (i := 27) (v := ?v74x12) (Eq.trans List.getElem?_toArray rfl) (by kernel_rfl) (by kernel_rfl) (by kernel_rfl) (fun _ _ _ h => h) (Or.inl ⟨by rfl, ?y74x12⟩) (by assumption) ?r74x12
        case y74x12 => intro w hSw; (try dsimp only at hSw); go_simp; try with_reducible rfl
        try simp only [Act.put, List.setIfInBounds_toArray, List.set_cons_zero, List.set_cons_succ]
        refine wpAnyH_ready (rs := [24]) (by kernel_rfl) (by simp) ?_
        refine AllReadyH.cons (Eq.trans List.getElem?_toArray rfl) (fun K hK => ?s71x12) AllReadyH.nil
        go_simp
        (first | (go_at_call 18; refine (HN.out _).mono ?_; rintro e w' ⟨rfl, hb⟩; have hs' := sorts_step (by assumption) hb; clear hb) | (go_at_call 19; refine (HF.out _).mono ?_; rintro e w' ⟨rr, hrr, rfl, hb⟩; obtain rfl := HFI.out _ hrr; clear hrr; have hs' := sorts_step (by assumption) hb; clear hb) | (go_at_call 20; refine (HWI.out _).mono ?_; rintro e w' ⟨rfl, hb⟩; have hs' := sorts_step (by assumption) hb; clear hb) | (go_at_call 21; refine (HWR.out _).mono ?_; rintro e w' ⟨rfl, hb⟩; have hs' := sorts_step (by assumption) hb; clear hb) | (go_at_call 22; refine (HL.out _).mono ?_; rintro e w' ⟨rfl, hb⟩; have hs' := sorts_step (by assumption) hb; clear hb) | (go_at_call 23; refine (HS.out _).mono ?_; rintro e w' ⟨rfl, hb⟩; have hs' := sorts_step (by assumption) hb; clear hb) | (go_at_call 24; refine (HB.out _).mono ?_; rintro e w' ⟨rfl, hb⟩; have hs' := sorts_step (by assumption) hb; clear hb) | (go_at_call 25; refine (HA.out _).mono ?_; rintro e w' ⟨rfl, hb⟩; have hs' := sorts_step (by assumption) hb; clear hb) | (go_at_call 26; refine (HY.out _).mono ?_; rintro e w' ⟨rfl, hb⟩; have hs' := sorts_step (by assumption) hb; clear hb))
        go_wp2_with fail
        refine hK.out _ _ (by first | assumption | (dsimp only; assumption)) ?_
        clear hK K hHeld hs'
        intro hHeld
        try simp only [Act.put, List.setIfInBounds_toArray, List.set_cons_zero, List.set_cons_succ]
        refine wpAnyH_take (i := 28) (v := ?v75x12) (Eq.trans List.getElem?_toArray rfl) (by kernel_rfl) (by kernel_rfl) (by kernel_rfl) (fun _ _ _ h => h) (Or.inl ⟨by rfl, ?y75x12⟩) (by assumption) ?r75x12
        case y75x12 => intro w hSw; (try dsimp only at hSw); go_simp; try with_reducible rfl
        try simp only [Act.put, List.setIfInBounds_toArray, List.set_cons_zero, List.set_cons_succ]
        refine wpAnyH_take (i := 29) (v := ?v76x12) (Eq.trans List.getElem?_toArray rfl) (by kernel_rfl) (by kernel_rfl) (by kernel_rfl) (fun _ _ _ h => h) (Or.inl ⟨by rfl, ?y76x12⟩) (by assumption) ?r76x12
        case y76x12 => intro w hSw; (try dsimp only at hSw); go_simp; try with_reducible rfl
        try simp only [Act.put, List.setIfInBounds_toArray, List.set_cons_zero, List.set_cons_succ]
        refine wpAnyH_take (i := 30) (v := ?v77x12) (Eq.trans List.getElem?_toArray rfl) (by kernel_rfl) (by kernel_rfl) (by kernel_rfl) (fun _ _ _ h => h) (Or.inl ⟨by rfl, ?y77x12⟩) (by assumption) ?r77x12
        case y77x12 => intro w hSw; (try dsimp only at hSw); go_simp; try with_reducible rfl
        try simp only [Act.put, List.setIfInBounds_toArray, List.set_cons_zero, List.set_cons_succ]
        refine wpAnyH_take (i := 31) (v := ?v78x12) (Eq.trans List.getElem?_toArray rfl) (by kernel_rfl) (by kernel_rfl) (by kernel_rfl) (fun _ _ _ h => h) (Or.inl ⟨by rfl, ?y78x12⟩) (by assumption) ?r78x12
        case y78x12 => intro w hSw; (try dsimp only at hSw); go_simp; try with_reducible rfl
        try simp only [Act.put, List.setIfInBounds_toArray, List.set_cons_zero, List.set_cons_succ]
        refine wpAnyH_take (i := 32) (v := ?v79x12) (Eq.trans List.getElem?_toArray rfl) (by kernel_rfl) (by kernel_rfl) (by kernel_rfl) (fun _ _ _ h => h) (Or.inl ⟨by rfl, ?y79x12⟩) (by assumption) ?r79x12
        case y79x12 => intro w hSw; (try dsimp only at hSw); go_simp; try with_reducible rfl
        try simp only [Act.put, List.setIfInBounds_toArray, List.set_cons_zero, List.set_cons_succ]
        refine wpAnyH_take (i := 33) (v := ?v80x12) (Eq.trans List.getElem?_toArray rfl) (by kernel_rfl) (by kernel_rfl) (by kernel_rfl) (fun _ _ _ h => h) (Or.inl ⟨by rfl, ?y80x12⟩) (by assumption) ?r80x12
        case y80x12 => intro w hSw; (try dsimp only at hSw); go_simp; try with_reducible rfl
        try simp only [Act.put, List.setIfInBounds_toArray, List.set_cons_zero, List.set_cons_succ]
        refine wpAnyH_take (i := 34) (v := ?v81x12) (Eq.trans List.getElem?_toArray rfl) (by kernel_rfl) (by kernel_rfl) (by kernel_rfl) (fun _ _ _ h => h) (Or.inl ⟨by rfl, ?y81x12⟩) (by assumption) ?r81x12
        case y81x12 => intro w hSw; (try dsimp only at hSw); go_simp; try with_reducible rfl
        try simp only [Act.put, List.setIfInBounds_toArray, List.set_cons_zero, List.set_cons_succ]
        refine wpAnyH_take (i := 35) (v := ?v82x12) (Eq.trans List.getElem?_toArray rfl) (by kernel_rfl) (by kernel_rfl) (by kernel_rfl) (fun _ _ _ h => h) (Or.inl ⟨by rfl, ?y82x12⟩) (by assumption) ?r82x12
        case y82x12 => intro w hSw; (try dsimp only at hSw); go_simp; try with_reducible rfl
        try simp only [Act.put, List.setIfInBounds_toArray, List.set_cons_zero, List.set_cons_succ]
        refine wpAnyH_take (i := 36) (v := ?v83x12) (Eq.trans List.getElem?_toArray rfl) (by kernel_rfl) (by kernel_rfl) (by kernel_rfl) (fun _ _ _ h => h) (Or.inl ⟨by rfl, ?y83x12⟩) (by assumption) ?r83x12
        case y83x12 => intro w hSw; (try dsimp only at hSw); go_simp; try with_reducible rfl
        try simp only [Act.put, List.setIfInBounds_toArray, List.set_cons_zero, List.set_cons_succ]
        refine wpAnyH_take (i := 38) (v := ?v85x12) (Eq.trans List.getElem?_toArray rfl) (by kernel_rfl) (by kernel_rfl) (by kernel_rfl) (fun _ _ _ h => h) (Or.inl ⟨by rfl, ?y85x12⟩) (by assumption) ?r85x12
        case y85x12 => intro w hSw; (try dsimp only at hSw); go_simp; try with_reducible rfl
        try simp only [Act.put, List.setIfInBounds_toArray, List.set_cons_zero, List.set_cons_succ]
        refine wpAnyH_take (i := 39) (v := ?v86x12) (Eq.trans List.getElem?_toArray rfl) (by kernel_rfl) (by kernel_rfl) (by kernel_rfl) (fun _ _ _ h => h) (Or.inl ⟨by rfl, ?y86x12⟩) (by assumption) ?r86x12
        case y86x12 => intro w hSw; (try dsimp only at hSw); go_simp; try with_reducible rfl
        try simp only [Act.put, List.setIfInBounds_toArray, List.set_cons_zero, List.set_cons_succ]
        refine wpAnyH_take (i := 40) (v := ?v87x12) (Eq.trans List.getElem?_toArray rfl) (by kernel_rfl) (by kernel_rfl) (by kernel_rfl) (fun _ _ _ h => h) (Or.inl ⟨by rfl, ?y87x12⟩) (by assumption) ?r87x12
        case y87x12 => intro w hSw; (try dsimp only at hSw); go_simp; try with_reducible rfl
        try simp only [Act.put, List.setIfInBounds_toArray, List.set_cons_zero, List.set_cons_succ]
        refine wpAnyH_ready (rs := [37]) (by kernel_rfl) (by simp) ?_
        refine AllReadyH.cons (Eq.trans List.getElem?_toArray rfl) (fun K hK => ?s84x12) AllReadyH.nil
        go_simp
        (first | (go_at_call 18; refine (HN.out _).mono ?_; rintro e w' ⟨rfl, hb⟩; have hs' := sorts_step (by assumption) hb; clear hb) | (go_at_call 19; refine (HF.out _).mono ?_; rintro e w' ⟨rr, hrr, rfl, hb⟩; obtain rfl := HFI.out _ hrr; clear hrr; have hs' := sorts_step (by assumption) hb; clear hb) | (go_at_call 20; refine (HWI.out _).mono ?_; rintro e w' ⟨rfl, hb⟩; have hs' := sorts_step (by assumption) hb; clear hb) | (go_at_call 21; refine (HWR.out _).mono ?_; rintro e w' ⟨rfl, hb⟩; have hs' := sorts_step (by assumption) hb; clear hb) | (go_at_call 22; refine (HL.out _).mono ?_; rintro e w' ⟨rfl, hb⟩; have hs' := sorts_step (by assumption) hb; clear hb) | (go_at_call 23; refine (HS.out _).mono ?_; rintro e w' ⟨rfl, hb⟩; have hs' := sorts_step (by assumption) hb; clear hb) | (go_at_call 24; refine (HB.out _).mono ?_; rintro e w' ⟨rfl, hb⟩; have hs' := sorts_step (by assumption) hb; clear hb) | (go_at_call 25; refine (HA.out _).mono ?_; rintro e w' ⟨rfl, hb⟩; have hs' := sorts_step (by assumption) hb; clear hb) | (go_at_call 26; refine (HY.out _).mono ?_; rintro e w' ⟨rfl, hb⟩; have hs' := sorts_step (by assumption) hb; clear hb))
        go_wp2_with fail
        refine hK.out _ _ (by first | assumption | (dsimp only; assumption)) ?_
        clear hK K hHeld hs'
        intro hHeld
        try simp only [Act.put, List.setIfInBounds_toArray, List.set_cons_zero, List.set_cons_succ]
        refine wpAnyH_take (i := 41) (v := ?v88x12) (Eq.trans List.getElem?_toArray rfl) (by kernel_rfl) (by kernel_rfl) (by kernel_rfl) (fun _ _ _ h => h) (Or.inl ⟨by rfl, ?y88x12⟩) (by assumption) ?r88x12
        case y88x12 => intro w hSw; (try dsimp only at hSw); go_simp; try with_reducible rfl
        try simp only [Act.put, List.setIfInBounds_toArray, List.set_cons_zero, List.set_cons_succ]
        refine wpAnyH_take (i := 42) (v := undef) (Eq.trans List.getElem?_toArray rfl) (by kernel_rfl) (by kernel_rfl) (by kernel_rfl) (fun _ _ _ h => h) (Or.inr ⟨by rfl, rfl⟩) (by assumption) ?_
        try simp only [Act.put, List.setIfInBounds_toArray, List.set_cons_zero, List.set_cons_succ]
        refine wpAnyH_take (i := 43) (v := undef) (Eq.trans List.getElem?_toArray rfl) (by kernel_rfl) (by kernel_rfl) (by kernel_rfl) (fun _ _ _ h => h) (Or.inr ⟨by rfl, rfl⟩) (by assumption) ?_
        try simp only [Act.put, List.setIfInBounds_toArray, List.set_cons_zero, List.set_cons_succ]
        refine wpAnyH_take (i := 44) (v := undef) (Eq.trans List.getElem?_toArray rfl) (by kernel_rfl) (by kernel_rfl) (by kernel_rfl) (fun _ _ _ h => h) (Or.inr ⟨by rfl, rfl⟩) (by assumption) ?_
        try simp only [Act.put, List.setIfInBounds_toArray, List.set_cons_zero, List.set_cons_succ]
        refine wpAnyH_take (i := 45) (v := ?v92x12) (Eq.trans List.getElem?_toArray rfl) (by kernel_rfl) (by kernel_rfl) (by kernel_rfl) (fun _ _ _ h => h) (Or.inl ⟨by rfl, ?y92x12⟩) (by assumption) ?r92x12
        case y92x12 => intro w hSw; (try dsimp only at hSw); go_simp; try with_reducible rfl
        try simp only [Act.put, List.setIfInBounds_toArray, List.set_cons_zero, List.set_cons_succ]
        refine wpAnyH_take (i := 46) (v := ?v93x12) (Eq.trans List.getElem?_toArray rfl) (by kernel_rfl) (by kernel_rfl) (by kernel_rfl) (fun _ _ _ h => h) (Or.inl ⟨by rfl, ?y93x12⟩) (by assumption) ?r93x12
        case y93x12 => intro w hSw; (try dsimp only at hSw); go_simp; try with_reducible rfl
        try simp only [Act.put, List.setIfInBounds_toArray, List.set_cons_zero, List.set_cons_succ]
        refine wpAnyH_take (i := 47) (v := ?v94x12) (Eq.trans List.getElem?_toArray rfl) (by kernel_rfl) (by kernel_rfl) (by kernel_rfl) (fun _ _ _ h => h) (Or.inl ⟨by rfl, ?y94x12⟩) (by assumption) ?r94x12
        case y94x12 => intro w hSw; (try dsimp only at hSw); go_simp; try with_reducible rfl
        try simp only [Act.put, List.setIfInBounds_toArray, List.set_cons_zero, List.set_cons_succ]
        refine wpAnyH_take (i := 48) (v := ?v95x12) (Eq.trans List.getElem?_toArray rfl) (by kernel_rfl) (by kernel_rfl) (by kernel_rfl) (fun _ _ _ h => h) (Or.inl ⟨by rfl, ?y95x12⟩) (by assumption) ?r95x12
        case y95x12 => intro w hSw; (try dsimp only at hSw); go_simp; try with_reducible rfl
        try simp only [Act.put, List.setIfInBounds_toArray, List.set_cons_zero, List.set_cons_succ]
        refine wpAnyH_done (by kernel_rfl) ?_ _
        refine NoPanic.normal ?_
        go_wp2_with fail
        go_ret
        exact ⟨rfl, (‹w'.cell? ⟨w2.heap.size, 0, none⟩ = some (.string rn) ∧ w'.cell? ⟨w2.heap.size, 1, none⟩ = some (.int .i64 12) ∧ w2.heap.size < w'.heap.size ∧ Below w.heap.size w w'›).2.2.2⟩

end Go.Proofs.Ythifnlhbioaihaa
