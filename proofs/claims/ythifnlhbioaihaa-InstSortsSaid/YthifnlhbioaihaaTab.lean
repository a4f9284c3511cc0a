/- The table of the operations: what inst.table answers, and how a row of it is read. -/
import Derived.Test.YthifnlhbioaihaaBase
namespace Go.Proofs.Ythifnlhbioaihaa
open Go.RowKit
set_option linter.unusedVariables false
set_option linter.unusedSimpArgs false

/-- An operation's row: its name, its form, and its bits. -/
structure Row where
  name : ByteArray
  form : Int
  code : Int
  f3 : Int
  f7 : Int

def Row.v (r : Row) : List Value := [.string r.name, .int .i64 r.form, .int .u32 r.code, .int .u32 r.f3, .int .u32 r.f7]

def row0 : Row := ⟨⟨#[]⟩, 0, 0, 0, 0⟩

def rows : List Row := [
  ⟨⟨#[108, 117, 105]⟩, 1, 55, 0, 0⟩,
  ⟨⟨#[97, 117, 105, 112, 99]⟩, 1, 23, 0, 0⟩,
  ⟨⟨#[106, 97, 108]⟩, 2, 111, 0, 0⟩,
  ⟨⟨#[106, 97, 108, 114]⟩, 3, 103, 0, 0⟩,
  ⟨⟨#[98, 101, 113]⟩, 4, 99, 0, 0⟩,
  ⟨⟨#[98, 110, 101]⟩, 4, 99, 1, 0⟩,
  ⟨⟨#[98, 108, 116]⟩, 4, 99, 4, 0⟩,
  ⟨⟨#[98, 103, 101]⟩, 4, 99, 5, 0⟩,
  ⟨⟨#[98, 108, 116, 117]⟩, 4, 99, 6, 0⟩,
  ⟨⟨#[98, 103, 101, 117]⟩, 4, 99, 7, 0⟩,
  ⟨⟨#[108, 98]⟩, 5, 3, 0, 0⟩,
  ⟨⟨#[108, 104]⟩, 5, 3, 1, 0⟩,
  ⟨⟨#[108, 119]⟩, 5, 3, 2, 0⟩,
  ⟨⟨#[108, 100]⟩, 5, 3, 3, 0⟩,
  ⟨⟨#[108, 98, 117]⟩, 5, 3, 4, 0⟩,
  ⟨⟨#[108, 104, 117]⟩, 5, 3, 5, 0⟩,
  ⟨⟨#[108, 119, 117]⟩, 5, 3, 6, 0⟩,
  ⟨⟨#[115, 98]⟩, 6, 35, 0, 0⟩,
  ⟨⟨#[115, 104]⟩, 6, 35, 1, 0⟩,
  ⟨⟨#[115, 119]⟩, 6, 35, 2, 0⟩,
  ⟨⟨#[115, 100]⟩, 6, 35, 3, 0⟩,
  ⟨⟨#[97, 100, 100, 105]⟩, 3, 19, 0, 0⟩,
  ⟨⟨#[115, 108, 116, 105]⟩, 3, 19, 2, 0⟩,
  ⟨⟨#[115, 108, 116, 105, 117]⟩, 3, 19, 3, 0⟩,
  ⟨⟨#[120, 111, 114, 105]⟩, 3, 19, 4, 0⟩,
  ⟨⟨#[111, 114, 105]⟩, 3, 19, 6, 0⟩,
  ⟨⟨#[97, 110, 100, 105]⟩, 3, 19, 7, 0⟩,
  ⟨⟨#[115, 108, 108, 105]⟩, 7, 19, 1, 0⟩,
  ⟨⟨#[115, 114, 108, 105]⟩, 7, 19, 5, 0⟩,
  ⟨⟨#[115, 114, 97, 105]⟩, 7, 19, 5, 32⟩,
  ⟨⟨#[97, 100, 100]⟩, 9, 51, 0, 0⟩,
  ⟨⟨#[115, 117, 98]⟩, 9, 51, 0, 32⟩,
  ⟨⟨#[115, 108, 108]⟩, 9, 51, 1, 0⟩,
  ⟨⟨#[115, 108, 116]⟩, 9, 51, 2, 0⟩,
  ⟨⟨#[115, 108, 116, 117]⟩, 9, 51, 3, 0⟩,
  ⟨⟨#[120, 111, 114]⟩, 9, 51, 4, 0⟩,
  ⟨⟨#[115, 114, 108]⟩, 9, 51, 5, 0⟩,
  ⟨⟨#[115, 114, 97]⟩, 9, 51, 5, 32⟩,
  ⟨⟨#[111, 114]⟩, 9, 51, 6, 0⟩,
  ⟨⟨#[97, 110, 100]⟩, 9, 51, 7, 0⟩,
  ⟨⟨#[97, 100, 100, 105, 119]⟩, 3, 27, 0, 0⟩,
  ⟨⟨#[115, 108, 108, 105, 119]⟩, 8, 27, 1, 0⟩,
  ⟨⟨#[115, 114, 108, 105, 119]⟩, 8, 27, 5, 0⟩,
  ⟨⟨#[115, 114, 97, 105, 119]⟩, 8, 27, 5, 32⟩,
  ⟨⟨#[97, 100, 100, 119]⟩, 9, 59, 0, 0⟩,
  ⟨⟨#[115, 117, 98, 119]⟩, 9, 59, 0, 32⟩,
  ⟨⟨#[115, 108, 108, 119]⟩, 9, 59, 1, 0⟩,
  ⟨⟨#[115, 114, 108, 119]⟩, 9, 59, 5, 0⟩,
  ⟨⟨#[115, 114, 97, 119]⟩, 9, 59, 5, 32⟩,
  ⟨⟨#[102, 101, 110, 99, 101]⟩, 10, 15, 0, 0⟩,
  ⟨⟨#[102, 101, 110, 99, 101, 46, 105]⟩, 10, 15, 1, 0⟩,
  ⟨⟨#[101, 99, 97, 108, 108]⟩, 11, 115, 0, 0⟩,
  ⟨⟨#[101, 98, 114, 101, 97, 107]⟩, 11, 115, 0, 1⟩,
  ⟨⟨#[99, 115, 114, 114, 119]⟩, 12, 115, 1, 0⟩,
  ⟨⟨#[99, 115, 114, 114, 115]⟩, 12, 115, 2, 0⟩,
  ⟨⟨#[99, 115, 114, 114, 99]⟩, 12, 115, 3, 0⟩,
  ⟨⟨#[99, 115, 114, 114, 119, 105]⟩, 13, 115, 5, 0⟩,
  ⟨⟨#[99, 115, 114, 114, 115, 105]⟩, 13, 115, 6, 0⟩,
  ⟨⟨#[99, 115, 114, 114, 99, 105]⟩, 13, 115, 7, 0⟩,
  ⟨⟨#[109, 117, 108]⟩, 9, 51, 0, 1⟩,
  ⟨⟨#[109, 117, 108, 104]⟩, 9, 51, 1, 1⟩,
  ⟨⟨#[109, 117, 108, 104, 115, 117]⟩, 9, 51, 2, 1⟩,
  ⟨⟨#[109, 117, 108, 104, 117]⟩, 9, 51, 3, 1⟩,
  ⟨⟨#[100, 105, 118]⟩, 9, 51, 4, 1⟩,
  ⟨⟨#[100, 105, 118, 117]⟩, 9, 51, 5, 1⟩,
  ⟨⟨#[114, 101, 109]⟩, 9, 51, 6, 1⟩,
  ⟨⟨#[114, 101, 109, 117]⟩, 9, 51, 7, 1⟩,
  ⟨⟨#[109, 117, 108, 119]⟩, 9, 59, 0, 1⟩,
  ⟨⟨#[100, 105, 118, 119]⟩, 9, 59, 4, 1⟩,
  ⟨⟨#[100, 105, 118, 117, 119]⟩, 9, 59, 5, 1⟩,
  ⟨⟨#[114, 101, 109, 119]⟩, 9, 59, 6, 1⟩,
  ⟨⟨#[114, 101, 109, 117, 119]⟩, 9, 59, 7, 1⟩,
  ⟨⟨#[108, 114, 46, 119]⟩, 14, 47, 2, 2⟩,
  ⟨⟨#[115, 99, 46, 119]⟩, 15, 47, 2, 3⟩,
  ⟨⟨#[97, 109, 111, 115, 119, 97, 112, 46, 119]⟩, 15, 47, 2, 1⟩,
  ⟨⟨#[97, 109, 111, 97, 100, 100, 46, 119]⟩, 15, 47, 2, 0⟩,
  ⟨⟨#[97, 109, 111, 120, 111, 114, 46, 119]⟩, 15, 47, 2, 4⟩,
  ⟨⟨#[97, 109, 111, 97, 110, 100, 46, 119]⟩, 15, 47, 2, 12⟩,
  ⟨⟨#[97, 109, 111, 111, 114, 46, 119]⟩, 15, 47, 2, 8⟩,
  ⟨⟨#[97, 109, 111, 109, 105, 110, 46, 119]⟩, 15, 47, 2, 16⟩,
  ⟨⟨#[97, 109, 111, 109, 97, 120, 46, 119]⟩, 15, 47, 2, 20⟩,
  ⟨⟨#[97, 109, 111, 109, 105, 110, 117, 46, 119]⟩, 15, 47, 2, 24⟩,
  ⟨⟨#[97, 109, 111, 109, 97, 120, 117, 46, 119]⟩, 15, 47, 2, 28⟩,
  ⟨⟨#[108, 114, 46, 100]⟩, 14, 47, 3, 2⟩,
  ⟨⟨#[115, 99, 46, 100]⟩, 15, 47, 3, 3⟩,
  ⟨⟨#[97, 109, 111, 115, 119, 97, 112, 46, 100]⟩, 15, 47, 3, 1⟩,
  ⟨⟨#[97, 109, 111, 97, 100, 100, 46, 100]⟩, 15, 47, 3, 0⟩,
  ⟨⟨#[97, 109, 111, 120, 111, 114, 46, 100]⟩, 15, 47, 3, 4⟩,
  ⟨⟨#[97, 109, 111, 97, 110, 100, 46, 100]⟩, 15, 47, 3, 12⟩,
  ⟨⟨#[97, 109, 111, 111, 114, 46, 100]⟩, 15, 47, 3, 8⟩,
  ⟨⟨#[97, 109, 111, 109, 105, 110, 46, 100]⟩, 15, 47, 3, 16⟩,
  ⟨⟨#[97, 109, 111, 109, 97, 120, 46, 100]⟩, 15, 47, 3, 20⟩,
  ⟨⟨#[97, 109, 111, 109, 105, 110, 117, 46, 100]⟩, 15, 47, 3, 24⟩,
  ⟨⟨#[97, 109, 111, 109, 97, 120, 117, 46, 100]⟩, 15, 47, 3, 28⟩,
  ⟨⟨#[109, 114, 101, 116]⟩, 11, 115, 0, 770⟩,
  ⟨⟨#[115, 114, 101, 116]⟩, 11, 115, 0, 258⟩,
  ⟨⟨#[119, 102, 105]⟩, 11, 115, 0, 261⟩,
  ⟨⟨#[115, 102, 101, 110, 99, 101, 46, 118, 109, 97]⟩, 16, 115, 0, 9⟩]

def allRows : List Row := row0 :: rows
def flat : List Row → List Value
  | [] => []
  | r :: l => r.v ++ flat l
def tabCells : Array Value := (flat allRows).toArray

theorem flat_at (l : List Row) : ∀ (i : Nat) (h : i < l.length), ((flat l).drop (5 * i)).take 5 = (l[i]).v := by
  induction l with
  | nil => intro i h; simp at h
  | cons r l ih =>
    intro i h
    cases i with
    | zero => simp [flat, Row.v]
    | succ i =>
      have e : 5 * (i + 1) = 5 + 5 * i := by omega
      rw [e]
      have : (flat (r :: l)).drop (5 + 5 * i) = (flat l).drop (5 * i) := by
        simp only [flat]
        rw [← List.drop_drop]
        congr 1
      rw [this, ih i (by simpa using h)]
      simp

theorem flat_len (l : List Row) : (flat l).length = 5 * l.length := by
  induction l with
  | nil => rfl
  | cons r l ih => simp only [flat, List.length_append, List.length_cons, ih, Row.v, List.length_nil]; omega

theorem tab_size : tabCells.size = 495 := by
  unfold tabCells; rw [List.size_toArray, flat_len]; rfl

theorem Row.v_one (r : Row) : ∀ v ∈ r.v, v.oneCell' = true := by
  intro v hv
  simp only [Row.v, List.mem_cons, List.not_mem_nil, or_false] at hv
  rcases hv with rfl | rfl | rfl | rfl | rfl <;> rfl

theorem flat_one (l : List Row) : ∀ v ∈ flat l, v.oneCell' = true := by
  induction l with
  | nil => intro v hv; simp [flat] at hv
  | cons r l ih =>
    intro v hv
    rcases List.mem_append.1 hv with h | h
    · exact r.v_one v h
    · exact ih v h

theorem tab_one : tabCells.all (·.oneCell') = true := by
  unfold tabCells
  rw [List.all_toArray, List.all_eq_true]
  exact flat_one _

def zeroCells : Array Value := (Array.replicate 99 #[Value.string ⟨#[]⟩, .int .i64 0, .int .u32 0, .int .u32 0, .int .u32 0]).flatten
theorem zero_size : zeroCells.size = tabCells.size := by rw [tab_size]; simp [zeroCells]

theorem tab_info : (Try.prog.info? 50).map (fun i => (i.zero, i.size)) = some (some (.agg zeroCells), 495) := by kernel_rfl
theorem row_info : (Try.prog.info? 49).map (·.size) = some 5 := by kernel_rfl

set_option maxHeartbeats 1000000 in
set_option maxRecDepth 100000 in
theorem table_any (w : World) :
    Calls Try.prog 27 #[] w fun e w' => e = .returned (.agg tabCells) ∧ w.alloc (.cells tabCells 50) = w' := by
  obtain ⟨hz, hs⟩ := zero_of_info tab_info
  have hs' : (Try.prog.info? 50).map (·.size) = some tabCells.size := by rw [hs, tab_size]
  go_enter Try.func27, Try.ntmps27
  apply wp_seq_k; intro K1 hK1
  apply wp_region_lit
  refine wpList_plain rfl fun K hK => ?_
  unfold Oper.wp
  rw [show ∀ (a : Act), (execOp a.eval { dst := some 0, op := Op.alloc 50, type := 0, pos := "table.go:35", after := #[], guard := none }).run Try.prog w = .ok (.value (.pointer (some ⟨w.heap.size, 0, none⟩))) (w.alloc (.cells zeroCells 50)) from fun a => by simp [execOp, go_sem, hz]]
  rw [Oper.upon_value]
  refine hK _ _ (wpList_nil ?_)
  clear hK K
  refine hK1 _ _ ?_
  clear hK1 K1
  apply wp_seq_k; intro K1 hK1
  refine wp_region_slots _ 99 _ (fun t => (t.getD 0 undef, t.getD 99 undef)) (.pointer (some ⟨w.heap.size, 0, none⟩), .agg tabCells) none (Op.store 50 (.tmp 0) (.tmp 99)) (by kernel_rfl) (by kernel_rfl) ?_
  intro o ops t' ho1 ho2 ho3 ht
  obtain ⟨h0, h99⟩ := Prod.mk.inj ht
  refine wpList_plain ho3 fun K hK => ?_
  unfold Oper.wp
  have hrun := run_storeAt_new (P := Try.prog) w 50 _ tabCells hs' zero_size tab_one
  have hx : (execOp (Act.eval { tmps := t', defers := [] }) o).run Try.prog (w.alloc (Obj.cells zeroCells 50)) = .ok .skip (w.alloc (Obj.cells tabCells 50)) := by
    simp only [execOp, ho2, Act.eval, h0, h99]
    simp only [Sem.run_bind, hrun, Result.andThen_ok, Sem.run_pure]
  rw [hx, Oper.upon_skip, ho1]
  refine hK _ _ (wpList_nil ?_)
  clear hK K
  refine hK1 _ _ ?_
  clear hK1 K1
  apply wp_ret
  refine bodyPost_ret (v := .agg tabCells) ?_ rfl ⟨rfl, rfl⟩
  exact results_cell_row rfl _ _ w.heap.size 50 tabCells (0, 0) _ (by simpa [Act.put] using h0) (heap_alloc_last w _) Try.underlying50 rfl hs'

/-- The row of an operation's number. -/
def rowAt (op : Int) : Row := allRows.getD op.toNat row0

theorem run_tab (op : Int) (h0 : 0 ≤ op) (h1 : op ≤ 98) (w : World) :
    (Instr.index 50 (.agg tabCells) (.int .i64 op)).run Try.prog w = .ok (.agg #[.string (rowAt op).name, .int .i64 (rowAt op).form, .int .u32 (rowAt op).code, .int .u32 (rowAt op).f3, .int .u32 (rowAt op).f7]) w := by
  obtain ⟨i, rfl⟩ := Int.eq_ofNat_of_zero_le h0
  have hl : allRows.length = 99 := rfl
  have hi : i < allRows.length := by omega
  have hf := flat_at allRows i hi
  have hrow : rowAt (i : Int) = allRows[i] := by
    unfold rowAt
    rw [Int.toNat_natCast, List.getD_eq_getElem?_getD, List.getElem?_eq_getElem hi, Option.getD_some]
  have hx : tabCells.extract (i * 5) (i * 5 + 5) = #[.string (rowAt i).name, .int .i64 (rowAt i).form, .int .u32 (rowAt i).code, .int .u32 (rowAt i).f3, .int .u32 (rowAt i).f7] := by
    apply Array.ext'
    rw [hrow]
    unfold tabCells
    rw [List.extract_toArray, List.extract_eq_take_drop, Nat.add_sub_cancel_left, Nat.mul_comm i 5, hf]
    rfl
  have hu := Try.underlying50
  have hz : (sizeOf 49).run Try.prog w = .ok 5 w := by
    have h := row_info
    cases hq : Try.prog.info? 49 with
    | none => simp [hq] at h
    | some j => simp [hq] at h; simp [sizeOf, typeInfo, hq, h]
  have hagg : (isAgg 49).run Try.prog w = .ok true w := by
    unfold isAgg
    rw [Sem.run_bind, run_underlying Try.underlying49 w]
    rfl
  have hc : (0 : Int) ≤ (i : Int) ∧ (i : Int) < ((99 : Nat) : Int) := ⟨h0, by omega⟩
  simp only [Instr.index, asIntOf, part, Sem.run_bind, Sem.run_pure, Result.andThen_ok, run_underlying hu w, if_pos hc, hz, hagg, Int.toNat_natCast, if_true, hx]

end Go.Proofs.Ythifnlhbioaihaa
