/- The walk of inst.Decode. -/
import Derived.Test.YthifnlhbioaihaaEnc
namespace Go.Proofs.Ythifnlhbioaihaa
open Go.RowKit
set_option linter.unusedVariables false
set_option linter.unusedSimpArgs false

theorem bel_setRow {B : Nat} {a w : World} {g : Nat} {cs : Array Value} (h : Below B a w) (hg : B ≤ g) : Below B a (w.setRow g cs) :=
  ⟨h.os, h.tape, h.output, by rw [setRow_size]; exact h.size, fun k hk => (setRow_other w g k cs (by omega)).trans (h.block k hk)⟩

/-- The store of a whole value into the row that holds one. -/
theorem wpList_store_row {P : Program} {ops : Array Oper} {rest : List Oper} {o : Oper} {a : Act} {w : World} {Q : Exit → Act → World → Prop} (hgd : o.guard = none) (ty : TypeId) (x v : Operand) (ho : o.op = .store ty x v)
    (g : Nat) (hx : a.eval x = .pointer (some ⟨g, 0, none⟩)) (cells old : Array Value) (t : TypeId) (hv : a.eval v = .agg cells) (hg : w.heap[g]? = some (.cells old t (0, 0)))
    (hi : (P.info? ty).map (·.size) = some cells.size) (hs : old.size = cells.size) (h1 : cells.toList.all (·.oneCell') = true)
    (h : wpList P ops Q rest (a.put o.dst undef) (w.setRow g cells)) : wpList P ops Q (o :: rest) a w := by
  refine wpList_plain hgd fun K hK => ?_
  unfold Oper.wp
  have hr : (execOp a.eval o).run P w = .ok .skip (w.setRow g cells) := by
    simp only [execOp, ho, hx, hv, Instr.storeAt, Instr.sureAddr, Sem.run_bind, Sem.run_pure, Result.andThen_ok, run_storeVar_row w g t ty old cells hg hi hs (by rw [← Array.all_toList]; exact h1)]
  rw [hr, Oper.upon_skip]
  exact hK _ _ h

def hit (w : Int) (r : Row) : Bool := bits .and .u32 w (maskOf r.form) == fixedOf r
def NoHit (w : Int) (k : Nat) : Prop := ∀ j : Nat, 1 ≤ j → j < k → hit w (rowAt j) = false
def zeroIns : Ins := ⟨0, 0, 0, 0, 0, 0, false, false⟩

theorem form_ok (op : Int) (h0 : 1 ≤ op) (h1 : op ≤ 98) : IsForm (rowAt op).form := by
  have key : ∀ i : Fin 98, (allRows.getD (i.val + 1) row0).form = 1 ∨ (allRows.getD (i.val + 1) row0).form = 2 ∨ (allRows.getD (i.val + 1) row0).form = 3 ∨ (allRows.getD (i.val + 1) row0).form = 4 ∨ (allRows.getD (i.val + 1) row0).form = 5 ∨ (allRows.getD (i.val + 1) row0).form = 6 ∨ (allRows.getD (i.val + 1) row0).form = 7 ∨ (allRows.getD (i.val + 1) row0).form = 8 ∨ (allRows.getD (i.val + 1) row0).form = 9 ∨ (allRows.getD (i.val + 1) row0).form = 10 ∨ (allRows.getD (i.val + 1) row0).form = 11 ∨ (allRows.getD (i.val + 1) row0).form = 12 ∨ (allRows.getD (i.val + 1) row0).form = 13 ∨ (allRows.getD (i.val + 1) row0).form = 14 ∨ (allRows.getD (i.val + 1) row0).form = 15 ∨ (allRows.getD (i.val + 1) row0).form = 16 := by decide +kernel
  have h := key ⟨(op - 1).toNat, by omega⟩
  have e : (op - 1).toNat + 1 = op.toNat := by omega
  simp only [e] at h
  exact h

def Decoded (x : Int) (a : Ins) (e : Int) : Prop :=
  (∃ k : Nat, 1 ≤ k ∧ k ≤ 98 ∧ NoHit x k ∧ hit x (rowAt k) = true ∧ a = fieldsOf k (rowAt k).form x ∧ e = 0) ∨ (NoHit x 99 ∧ a = zeroIns ∧ e = 31)

def DecPost (x : Int) (w : World) (e : Ending) (w' : World) : Prop :=
  ∃ a c, Decoded x a c ∧ e = .returned (.tuple #[a.v, .int .i64 c]) ∧ Below w.heap.size w w'

set_option maxHeartbeats 4000000 in
set_option maxRecDepth 100000 in
theorem decode_any (x : Int) (w : World) (h0 : 0 ≤ x) (h1 : x < 4294967296) :
    Calls Try.prog 14 #[.int .u32 x] w (DecPost x w) := by
  have hrf := run_row1
  go_enter Try.func14, Try.ntmps14
  go_wp2
  go_loopw [4] (fun i wr => ∃ k : Nat, 1 ≤ k ∧ k ≤ 99 ∧ i = .int .i64 k ∧ NoHit x k ∧ Below (w.heap.size + 1) (w.alloc (.cells #[.int .i64 0, .int .i64 0, .int .i64 0, .int .i64 0, .int .i64 0, .int .i64 0, .bool false, .bool false] 23)) wr)
    (fun i _ => 99 - (intOf i).toNat)
  case atStart => exact ⟨1, by omega, by omega, rfl, fun j h1 h2 => by omega, Below.refl _ _⟩
  case round =>
    obtain ⟨k, hk0, hk, rfl, hno, hnx⟩ := hrel
    have hz : w.heap.size + 1 ≤ wr.heap.size := by have := hnx.size; simp at this; exact this
    have HNO := hid hno; clear hno
    have HNX := hid hnx; clear hnx
    by_cases hlt : k ≤ 98
    · have hidx := run_tab k (by omega) (by omega)
      have hfo := form_ok k (by omega) (by omega)
      generalize hrow : rowAt (k : Int) = r at *
      have HROW := hid hrow; clear hrow
      have HFX := hid (fun w => fixed_any r w hfo)
      have HFO := hid hfo; clear hfo
      obtain ⟨nm, form, code, f3, f7⟩ := r
      dsimp only at hidx HFX HFO
      go_wp2_with (first | (go_at_call 27; refine (table_any _).mono ?_; rintro e w' ⟨rfl, rfl⟩))
      go_region_held3 (fun w2 => w2.cell? ⟨wr.heap.size + 1, 0, none⟩ = some (.string nm) ∧ w2.cell? ⟨wr.heap.size + 1, 1, none⟩ = some (.int .i64 form) ∧ w2.cell? ⟨wr.heap.size + 1, 2, none⟩ = some (.int .u32 code) ∧ w2.cell? ⟨wr.heap.size + 1, 3, none⟩ = some (.int .u32 f3) ∧ w2.cell? ⟨wr.heap.size + 1, 4, none⟩ = some (.int .u32 f7)) (go_keep) (first | (go_at_call 39; refine (maskOf_any _ _).mono ?_; rintro e w' ⟨rfl, rfl⟩) | (go_at_call 40; refine (HFX.out _).mono ?_; rintro e w' ⟨rfl, rfl⟩))
      clear hidx
      cases hh : bits .and .u32 x (maskOf form) == fixedOf ⟨nm, form, code, f3, f7⟩ with
      | true =>
        go_wp2_with fail
        refine (fields_any _ _ _ _ h0 (by omega) HFO.out).mono ?_
        rintro e w2 ⟨rfl, hb2⟩
        have hblk : w2.heap[w.heap.size]? = some (.cells #[.int .i64 0, .int .i64 0, .int .i64 0, .int .i64 0, .int .i64 0, .int .i64 0, .bool false, .bool false] 23 (0, 0)) := by
          rw [hb2.block _ (by simp [heap_drew]; omega)]
          have hlt2 : w.heap.size < wr.heap.size := by omega
          simp only [heap_drew]
          rw [Below.heap_alloc _ _ _ (by simp [heap_drew]; omega), Below.heap_alloc _ _ _ (by simp; omega), Below.heap_alloc _ _ _ hlt2, HNX.out.block _ (by omega)]
          exact heap_alloc_new _ _
        have hbw : Below w.heap.size w w2 := by
          refine Below.trans ?_ (hb2.mono (by simp [heap_drew]; omega))
          have h9 : Below w.heap.size w wr := ((Below.refl _ _).alloc (Nat.le_refl _) _).trans (HNX.out.mono (by omega))
          have hzz : w.heap.size ≤ wr.heap.size := by omega
          repeat (first | exact h9 | apply Below.drew | refine Below.alloc ?_ (by first | exact hzz | (simp [heap_drew]; omega)) _)
        have HY := hid (show fieldsOf k form x = fieldsOf k form x from rfl)
        generalize hy : fieldsOf k form x = y
        have HYY := hid hy; clear hy HY hb2
        obtain ⟨a0, a1, a2, a3, a4, a5, a6, a7⟩ := y
        dsimp only [Ins.v]
        have HB := hid hblk; have HW := hid hbw; clear hblk hbw
        have hi23 : (Try.prog.info? 23).map (·.size) = some 8 := by kernel_rfl
        go_wp2_with (refine wpList_store_row rfl 23 (.tmp 2) (.tmp 26) rfl w.heap.size rfl #[.int .i64 a0, .int .i64 a1, .int .i64 a2, .int .i64 a3, .int .i64 a4, .int .i64 a5, .bool a6, .bool a7] _ _ rfl HB.out hi23 rfl rfl ?_)
        refine bodyPost_ret (v := .tuple #[.agg #[.int .i64 a0, .int .i64 a1, .int .i64 a2, .int .i64 a3, .int .i64 a4, .int .i64 a5, .bool a6, .bool a7], .int .i64 0]) ?_ rfl ?_
        · rw [results_cell_tmp (p := 2) (u := 3) (ty := 23) rfl]
          have hl := run_loadVar_row (P := Try.prog) (w2.setRow w.heap.size #[.int .i64 a0, .int .i64 a1, .int .i64 a2, .int .i64 a3, .int .i64 a4, .int .i64 a5, .bool a6, .bool a7]) w.heap.size 23 23 _ (0, 0) _ (setRow_heap _ _ _ _ _ _ HB.out) Try.underlying23 rfl hi23
          simp [asAddr, hl]
        · exact ⟨⟨a0, a1, a2, a3, a4, a5, a6, a7⟩, 0, .inl ⟨k, hk0, hlt, HNO.out, by rw [HROW.out]; exact hh, by rw [HROW.out]; exact HYY.out.symm, rfl⟩, rfl, bel_setRow HW.out (Nat.le_refl _)⟩
      | false =>
        go_wp2
        have hh2 : hit x (rowAt k) = false := by rw [HROW.out]; exact hh
        refine ⟨⟨k + 1, by omega, by omega, by go_num, ?_, ?_⟩, by simp [intOf] <;> omega⟩
        · intro j h1 h2
          by_cases e : j = k
          · rw [e]; exact hh2
          · exact HNO.out j h1 (by omega)
        · have hzz : w.heap.size + 1 ≤ wr.heap.size := by omega
          have h9 := HNX.out
          repeat (first | exact h9 | apply Below.drew | refine Below.alloc ?_ (by first | exact hzz | (simp [heap_drew]; omega)) _)
    · have e : k = 99 := by omega
      subst e
      have HB := hid ((HNX.out.block w.heap.size (by omega)).trans (heap_alloc_new w (.cells #[.int .i64 0, .int .i64 0, .int .i64 0, .int .i64 0, .int .i64 0, .int .i64 0, .bool false, .bool false] 23)))
      have hi23 : (Try.prog.info? 23).map (·.size) = some 8 := by kernel_rfl
      go_wp2_with (refine wpList_store_row rfl 23 (.tmp 2) (.tmp 27) rfl w.heap.size rfl #[.int .i64 0, .int .i64 0, .int .i64 0, .int .i64 0, .int .i64 0, .int .i64 0, .bool false, .bool false] _ _ rfl HB.out hi23 rfl rfl ?_)
      refine bodyPost_ret (v := .tuple #[.agg #[.int .i64 0, .int .i64 0, .int .i64 0, .int .i64 0, .int .i64 0, .int .i64 0, .bool false, .bool false], .int .i64 31]) ?_ rfl ?_
      · rw [results_cell_tmp (p := 2) (u := 3) (ty := 23) rfl]
        have hl := run_loadVar_row (P := Try.prog) (wr.setRow w.heap.size #[.int .i64 0, .int .i64 0, .int .i64 0, .int .i64 0, .int .i64 0, .int .i64 0, .bool false, .bool false]) w.heap.size 23 23 _ (0, 0) _ (setRow_heap _ _ _ _ _ _ HB.out) Try.underlying23 rfl hi23
        simp [asAddr, hl]
      · exact ⟨zeroIns, 31, .inr ⟨HNO.out, rfl, rfl⟩, rfl, bel_setRow (((Below.refl _ _).alloc (Nat.le_refl _) _).trans (HNX.out.mono (by omega))) (Nat.le_refl _)⟩

end Go.Proofs.Ythifnlhbioaihaa
