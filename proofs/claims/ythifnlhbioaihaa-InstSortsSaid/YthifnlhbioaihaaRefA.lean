/- The walks of vireoref03: Known, in, Rd, Rs1, Rs2, Imm, Of. -/
import Derived.Test.YthifnlhbioaihaaRList
import Derived.Test.YthifnlhbioaihaaDec
namespace Go.Proofs.Ythifnlhbioaihaa
open Go.RowKit
set_option linter.unusedVariables false
set_option linter.unusedSimpArgs false

set_option maxHeartbeats 400000 in
theorem rknown_any (op : Int) (w : World) :
    Calls Try.prog 29 #[.int .i64 op] w fun e w' => e = .returned (.bool (known op)) ∧ w = w' := by
  by_cases h1 : 1 ≤ op
  · go_enter Try.func29, Try.ntmps29
    go_wp2
    go_ret
    exact ⟨ret_bool (by simp [known, h1]), rfl⟩
  · go_enter Try.func29, Try.ntmps29
    go_wp2
    go_ret
    exact ⟨ret_bool (by simp [known]; omega), rfl⟩

set_option maxHeartbeats 800000 in
theorem in_any (f : Int) (g n : Nat) (l : List Int) (w : World) (hn : l.length = n) (hn1 : n ≤ 16) (hc : ∀ j (h : j < l.length), w.cell? ⟨g, j, none⟩ = some (.int .i64 l[j])) :
    Calls Try.prog 33 #[.int .i64 f, .slice (some ⟨g, 0, none⟩) n n] w fun e w' => e = .returned (.bool (l.any (· == f))) ∧ w = w' := by
  go_enter Try.func33, Try.ntmps33
  go_wp2
  go_loop [5] (fun i => ∃ k : Nat, k ≤ n ∧ i = .int .i64 k ∧ ((l.take k).any (· == f)) = false) (fun i => n - (intOf i).toNat)
  case atStart => exact ⟨0, by omega, rfl, by simp⟩
  case round =>
    obtain ⟨k, hk, rfl, hno⟩ := hrel
    by_cases hlt : k < n
    · have hm : k < l.length := by omega
      have hcell := hc k hm
      have ht : l.take (k + 1) = l.take k ++ [l[k]] := by rw [List.take_succ_eq_append_getElem hm]
      have hmem : l[k] ∈ l := List.getElem_mem hm
      have HT := hid ht; clear ht
      have HM := hid hmem; clear hmem
      have HNO := hid hno; clear hno
      have HC := hid hc; clear hc
      have HN := hid hn; clear hn
      generalize hx : l[k] = x at *
      have HX := hid hx; clear hx
      cases hb : x == f with
      | true =>
        go_wp2
        go_ret
        refine ⟨ret_bool ?_, rfl⟩
        symm
        rw [List.any_eq_true]
        exact ⟨x, HM.out, hb⟩
      | false =>
        go_wp2
        refine ⟨⟨k + 1, by omega, by go_num, ?_⟩, by simp [intOf] <;> omega⟩
        rw [HT.out, List.any_append, HNO.out]
        simp [hb]
    · have e : k = n := by omega
      subst e
      have HC := hid hc; clear hc
      have HNO := hid hno; clear hno
      go_wp2
      go_ret
      refine ⟨ret_bool ?_, rfl⟩
      have := HNO.out
      rw [List.take_of_length_le (by omega)] at this
      exact this.symm

def rd_ (f : Int) : Bool := !([4, 6, 11, 16].any (· == f))
def rs1_ (f : Int) : Bool := !([1, 2, 11, 13].any (· == f))
def rs2_ (f : Int) : Bool := [4, 6, 9, 15, 16].any (· == f)

set_option maxHeartbeats 800000 in
theorem rd_any (f : Int) (w : World) : Calls Try.prog 30 #[.int .i64 f] w fun e w' => e = .returned (.bool (rd_ f)) ∧ w.alloc (.cells #[.int .i64 4, .int .i64 6, .int .i64 11, .int .i64 16] 3) = w' := by
  go_enter Try.func30, Try.ntmps30
  go_wp2_with fail
  refine (in_any f _ 4 [4, 6, 11, 16] _ rfl (by decide) (by intro j h; match j, h with | 0, _ => simp | 1, _ => simp | 2, _ => simp | 3, _ => simp | j + 4, h => simp at h; omega)).mono ?_
  rintro e w' ⟨rfl, rfl⟩
  go_wp2_with fail
  go_ret
  exact ⟨ret_bool (by simp [rd_]), rfl⟩

set_option maxHeartbeats 800000 in
theorem rs1_any (f : Int) (w : World) : Calls Try.prog 31 #[.int .i64 f] w fun e w' => e = .returned (.bool (rs1_ f)) ∧ w.alloc (.cells #[.int .i64 1, .int .i64 2, .int .i64 11, .int .i64 13] 3) = w' := by
  go_enter Try.func31, Try.ntmps31
  go_wp2_with fail
  refine (in_any f _ 4 [1, 2, 11, 13] _ rfl (by decide) (by intro j h; match j, h with | 0, _ => simp | 1, _ => simp | 2, _ => simp | 3, _ => simp | j + 4, h => simp at h; omega)).mono ?_
  rintro e w' ⟨rfl, rfl⟩
  go_wp2_with fail
  go_ret
  exact ⟨ret_bool (by simp [rs1_]), rfl⟩

set_option maxHeartbeats 800000 in
theorem rs2_any (f : Int) (w : World) : Calls Try.prog 32 #[.int .i64 f] w fun e w' => e = .returned (.bool (rs2_ f)) ∧ w.alloc (.cells #[.int .i64 4, .int .i64 6, .int .i64 9, .int .i64 15, .int .i64 16] 3) = w' := by
  go_enter Try.func32, Try.ntmps32
  go_wp2_with fail
  refine (in_any f _ 5 [4, 6, 9, 15, 16] _ rfl (by decide) (by intro j h; match j, h with | 0, _ => simp | 1, _ => simp | 2, _ => simp | 3, _ => simp | 4, _ => simp | j + 5, h => simp at h; omega)).mono ?_
  rintro e w' ⟨rfl, rfl⟩
  go_wp2_with fail
  go_ret
  exact ⟨ret_bool (by simp [rs2_]), rfl⟩

structure Im where
  a : Int
  b : Int
  by_ : Int
  ok : Bool

def immR (f : Int) : Im :=
  if f == 1 then ⟨-2147483648, 2147479552, 4096, true⟩
  else if f == 2 then ⟨-1048576, 1048574, 2, true⟩
  else if f == 4 then ⟨-4096, 4094, 2, true⟩
  else if f == 3 || f == 5 || f == 6 then ⟨-2048, 2047, 1, true⟩
  else if f == 7 then ⟨0, 63, 1, true⟩
  else if f == 8 || f == 13 then ⟨0, 31, 1, true⟩
  else if f == 10 then ⟨0, 4095, 1, true⟩
  else ⟨0, 0, 1, false⟩

set_option maxHeartbeats 1600000 in
theorem immR_any (f : Int) (w : World) (hf : IsForm f) :
    Calls Try.prog 34 #[.int .i64 f] w fun e w' => e = .returned (.tuple #[.int .i64 (immR f).a, .int .i64 (immR f).b, .int .i64 (immR f).by_, .bool (immR f).ok]) ∧ w = w' := by
  rcases hf with rfl | rfl | rfl | rfl | rfl | rfl | rfl | rfl | rfl | rfl | rfl | rfl | rfl | rfl | rfl | rfl
  all_goals
    go_enter Try.func34, Try.ntmps34
    go_wp2
    exact bodyPost_ret (by simp [results, Try.results34, go_sem, immR]) rfl ⟨rfl, rfl⟩

/-- An operation's row; zero of none. -/
def rowOf (op : Int) : Row := if known op then rowAt op else row0

theorem rrow_cell (w : World) (op : Nat) (h0 : 1 ≤ op) (h1 : op ≤ 98) (j : Nat) (hj : j < 5) (t : TypeId) :
    (w.alloc (.cells rowsCells t)).cell? ⟨w.heap.size, (op - 1) * 5 + j, none⟩ = (rowAt op).rv[j]? := by
  rw [World.cell?_alloc_new]
  unfold rowsCells
  have hl : op - 1 < rows.length := by show op - 1 < 98; omega
  have := rflat_at rows (op - 1) hl j hj
  rw [List.getElem?_toArray, Nat.mul_comm, this]
  have hrow : rowAt (op : Int) = rows[op - 1] := by
    unfold rowAt allRows
    rw [Int.toNat_natCast, List.getD_eq_getElem?_getD, List.getElem?_cons, if_neg (by omega), List.getElem?_eq_getElem hl, Option.getD_some]
  rw [hrow]

set_option maxHeartbeats 400000 in
set_option maxRecDepth 20000 in
theorem of_known (op : Int) (w : World) (h0 : 1 ≤ op) (h1 : op ≤ 98) :
    Calls Try.prog 16 #[.int .i64 op] w fun e w' => e = .returned (.agg #[.string (rowAt op).name, .int .i64 (rowAt op).form, .int .i64 (rowAt op).code, .int .i64 (rowAt op).f3, .int .i64 (rowAt op).f7]) ∧ (w.alloc (.cells #[.string (rowAt op).name, .int .i64 (rowAt op).form, .int .i64 (rowAt op).code, .int .i64 (rowAt op).f3, .int .i64 (rowAt op).f7] 39)).alloc (.cells rowsCells 39) = w' := by
  obtain ⟨op, rfl⟩ := Int.eq_ofNat_of_zero_le (show 0 ≤ op by omega)
  have hk : known op = true := by simp [known]; omega
  have hc := fun (W : World) (j : Nat) (hj : j < 5) => rrow_cell W op (by omega) (by omega) j hj 39
  generalize rowAt (op : Int) = r at *
  have HC := hid hc; clear hc
  go_enter Try.func16, Try.ntmps16
  go_wp2_with fail
  refine (rknown_any _ _).mono ?_
  rintro e w' ⟨rfl, rfl⟩
  go_wp2_with fail
  refine (rows_any _).mono ?_
  rintro e w' ⟨rfl, rfl⟩
  have hcs : ∀ j, j < 5 → ((w.alloc (Obj.cells #[.string ⟨#[]⟩, .int .i64 0, .int .i64 0, .int .i64 0, .int .i64 0] 39)).alloc (Obj.cells rowsCells 39)).cell? ⟨w.heap.size + 1, (op - 1) * 5 + j, none⟩ = r.rv[j]? := by
    intro j hj
    have := HC.out (w.alloc (Obj.cells #[.string ⟨#[]⟩, .int .i64 0, .int .i64 0, .int .i64 0, .int .i64 0] 39)) j hj
    simpa using this
  generalize hrc : rowsCells = rc at *
  have HRC := hid hrc; clear hrc
  have c0 := hcs 0 (by omega); have c1 := hcs 1 (by omega); have c2 := hcs 2 (by omega); have c3 := hcs 3 (by omega); have c4 := hcs 4 (by omega)
  clear hcs
  simp only [Row.rv, List.getElem?_cons_zero, List.getElem?_cons_succ, Nat.add_zero] at c0 c1 c2 c3 c4
  have e0 : ((op : Int) - 1).toNat = op - 1 := by omega
  go_wp2_with fail
  exact bodyPost_ret (by simp [results, Try.results16, go_sem]) rfl ⟨rfl, by rw [HRC.out]⟩

theorem of_unknown (op : Int) (w : World) (h : known op = false) :
    Calls Try.prog 16 #[.int .i64 op] w fun e w' => e = .returned (.agg #[.string ⟨#[]⟩, .int .i64 0, .int .i64 0, .int .i64 0, .int .i64 0]) ∧ w.alloc (.cells #[.string ⟨#[]⟩, .int .i64 0, .int .i64 0, .int .i64 0, .int .i64 0] 39) = w' := by
  go_enter Try.func16, Try.ntmps16
  go_wp2_with (first | (go_at_call 29; refine (rknown_any _ _).mono ?_; rintro e w' ⟨rfl, rfl⟩))
  exact bodyPost_ret (by simp [results, Try.results16, go_sem]) rfl ⟨rfl, rfl⟩

end Go.Proofs.Ythifnlhbioaihaa
