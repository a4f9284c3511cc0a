/- Small lemmas of the walks: a row of operations that only reckon, run as one. The table of the operations: what inst.table answers, and how a row of it is read. The plain functions that the walks' contracts speak of: words, instructions as words. No program in it. The walks of package word: Mask, Get, Bit, Sext. The walks of package inst: what touches a number or two. -/
import Derived.Test.YteidojpklpfdeaaDoorProg
import Derived.WalkKit
import Derived.WalkSpells
import Derived.WalkLawsBesides
import Derived.Deep.QuietTactic
import Derived.BigQuiet
import Derived.Deep.WholeRow
import Derived.Laws.ResultCell
import Derived.Laws.BitsAllLaws
import Derived.Laws.Bits64
/- Small lemmas of the walks: a row of operations that only reckon, run as one. -/
namespace Go.Proofs.YteidojpklpfdeaaDoor
open Go.RowKit
set_option linter.unusedVariables false
set_option linter.unusedSimpArgs false

theorem ret_int {k : IntKind} {a b : Int} (h : a = b) : Ending.returned (.int k a) = .returned (.int k b) := by rw [h]
theorem ret_bool {a b : Bool} (h : a = b) : Ending.returned (.bool a) = .returned (.bool b) := by rw [h]
theorem ret_str {a b : ByteArray} (h : a = b) : Ending.returned (.string a) = .returned (.string b) := by rw [h]
theorem hid {p : Prop} (h : p) : Hid p := h

theorem bel_drewN {B : Nat} {a w : World} {n : Nat} (h : Below B a w) : Below B a (w.drewN n) := ⟨h.os, h.tape, h.output, h.size, h.block⟩

theorem setCell_drewN (w : World) (n : Nat) (a : Addr) (v : Value) : (w.drewN n).setCell a v = (w.setCell a v).drewN n := rfl
theorem alloc_drewN (w : World) (n : Nat) (o : Obj) : (w.drewN n).alloc o = (w.alloc o).drewN n := rfl

/-- What a computation comes to that touches no memory. -/
def pureOf {α : Type} (P : Program) : Sem α → Option α
  | .pure a => some a
  | .program k => pureOf P (k P)
  | .mark _ k => pureOf P k
  | _ => none

theorem run_of_pure {α : Type} {P : Program} {s : Sem α} {a : α} (h : pureOf P s = some a) (w : World) : s.run P w = .ok a w := by
  induction s with
  | pure b => simp only [pureOf, Option.some.injEq] at h; subst h; rfl
  | program k ih => exact ih P h
  | mark m k ih => exact ih h
  | _ => simp [pureOf] at h

/-- The slots behind a row of operations that touch no memory. -/
def valsOf (P : Program) : List Oper → Array Value → Option (Array Value)
  | [], t => some t
  | o :: rest, t =>
    if o.guard.isNone then
      match pureOf P (execOp (Act.eval { tmps := t, defers := [] }) o) with
      | some (.value v) => valsOf P rest (match o.dst with | some d => t.setIfInBounds d v | none => t)
      | _ => none
    else none

theorem wpList_vals {P : Program} {ops : Array Oper} {Q : Exit → Act → World → Prop} {rest : List Oper} {w : World} (l : List Oper) :
    ∀ (t t' : Array Value), valsOf P l t = some t' → wpList P ops Q rest { tmps := t', defers := [] } w → wpList P ops Q (l ++ rest) { tmps := t, defers := [] } w := by
  induction l with
  | nil => intro t t' h hn; simp only [valsOf, Option.some.injEq] at h; subst h; exact hn
  | cons o l ih =>
    intro t t' h hn
    simp only [valsOf] at h
    split at h
    · rename_i hg
      split at h
      · rename_i v hv
        have hg' : o.guard = none := by simpa using hg
        refine wpList_plain hg' fun K hK => ?_
        unfold Oper.wp
        rw [run_of_pure hv w, Oper.upon_value]
        refine hK _ _ ?_
        have := ih _ _ h hn
        cases hd : o.dst <;> simpa [Act.put, hd] using this
      · cases h
    · cases h

/-- As many operations of a row as one likes, run as one: what the rest needs of the slots behind them. -/
theorem wpList_slots {P : Program} {ops : Array Oper} {Q : Exit → Act → World → Prop} {w : World} {β : Type} (L : List Oper) (n : Nat) (t : Array Value) (f : Array Value → β) (b : β)
    (h : (valsOf P (L.take n) t).map f = some b) (hn : ∀ t', f t' = b → wpList P ops Q (L.drop n) { tmps := t', defers := [] } w) : wpList P ops Q L { tmps := t, defers := [] } w := by
  cases hv : valsOf P (L.take n) t with
  | none => simp [hv] at h
  | some t' =>
    rw [← List.take_append_drop n L]
    exact wpList_vals _ _ _ hv (hn t' (by simpa [hv] using h))

/-- A region whose operations but the last only reckon. -/
theorem wp_region_slots {P : Program} {Q : Exit → Act → World → Prop} {w : World} {β : Type} {id : Nat} (L : List Oper) (n : Nat) (t : Array Value) (f : Array Value → β) (b : β) (d : Option Tmp) (op : Op)
    (h : (valsOf P (L.take n) t).map f = some b) (hr : (L.drop n).map (fun o => (o.dst, o.op, o.guard)) = [(d, op, none)])
    (hn : ∀ (o : Oper) ops t', o.dst = d → o.op = op → o.guard = none → f t' = b → wpList P ops Q [o] { tmps := t', defers := [] } w) : (Code.region id L.toArray false).wp P Q { tmps := t, defers := [] } w := by
  apply wp_region_lit
  refine wpList_slots L n t f b h fun t' ht => ?_
  cases hL : L.drop n with
  | nil => simp [hL] at hr
  | cons o l =>
    rw [hL] at hr
    simp only [List.map_cons, List.cons.injEq, Prod.mk.injEq, List.map_eq_nil_iff] at hr
    obtain ⟨⟨h1, h2, h3⟩, rfl⟩ := hr
    exact hn o _ t' h1 h2 h3 ht

end Go.Proofs.YteidojpklpfdeaaDoor

/- The table of the operations: what inst.table answers, and how a row of it is read. -/
namespace Go.Proofs.YteidojpklpfdeaaDoor
open Go.RowKit
attribute [local go_sem] setCell_drewN alloc_drewN
set_option linter.unusedVariables false
set_option linter.unusedSimpArgs false

/-- An operation's row: its name, its form, and its bits. -/
structure Row where
  name : ByteArray
  form : Int
  code : Int
  f3 : Int
  f7 : Int

def Row.v (r : Row) : List Value := [.string r.name, .int .i64 r.form, .int .u32 r.code, .int .u32 r.f3, .int .u32 r.f7]

def row0 : Row := ⟨⟨#[]⟩, 0, 0, 0, 0⟩

def rows : List Row := [
  ⟨⟨#[108, 117, 105]⟩, 1, 55, 0, 0⟩,
  ⟨⟨#[97, 117, 105, 112, 99]⟩, 1, 23, 0, 0⟩,
  ⟨⟨#[106, 97, 108]⟩, 2, 111, 0, 0⟩,
  ⟨⟨#[106, 97, 108, 114]⟩, 3, 103, 0, 0⟩,
  ⟨⟨#[98, 101, 113]⟩, 4, 99, 0, 0⟩,
  ⟨⟨#[98, 110, 101]⟩, 4, 99, 1, 0⟩,
  ⟨⟨#[98, 108, 116]⟩, 4, 99, 4, 0⟩,
  ⟨⟨#[98, 103, 101]⟩, 4, 99, 5, 0⟩,
  ⟨⟨#[98, 108, 116, 117]⟩, 4, 99, 6, 0⟩,
  ⟨⟨#[98, 103, 101, 117]⟩, 4, 99, 7, 0⟩,
  ⟨⟨#[108, 98]⟩, 5, 3, 0, 0⟩,
  ⟨⟨#[108, 104]⟩, 5, 3, 1, 0⟩,
  ⟨⟨#[108, 119]⟩, 5, 3, 2, 0⟩,
  ⟨⟨#[108, 100]⟩, 5, 3, 3, 0⟩,
  ⟨⟨#[108, 98, 117]⟩, 5, 3, 4, 0⟩,
  ⟨⟨#[108, 104, 117]⟩, 5, 3, 5, 0⟩,
  ⟨⟨#[108, 119, 117]⟩, 5, 3, 6, 0⟩,
  ⟨⟨#[115, 98]⟩, 6, 35, 0, 0⟩,
  ⟨⟨#[115, 104]⟩, 6, 35, 1, 0⟩,
  ⟨⟨#[115, 119]⟩, 6, 35, 2, 0⟩,
  ⟨⟨#[115, 100]⟩, 6, 35, 3, 0⟩,
  ⟨⟨#[97, 100, 100, 105]⟩, 3, 19, 0, 0⟩,
  ⟨⟨#[115, 108, 116, 105]⟩, 3, 19, 2, 0⟩,
  ⟨⟨#[115, 108, 116, 105, 117]⟩, 3, 19, 3, 0⟩,
  ⟨⟨#[120, 111, 114, 105]⟩, 3, 19, 4, 0⟩,
  ⟨⟨#[111, 114, 105]⟩, 3, 19, 6, 0⟩,
  ⟨⟨#[97, 110, 100, 105]⟩, 3, 19, 7, 0⟩,
  ⟨⟨#[115, 108, 108, 105]⟩, 7, 19, 1, 0⟩,
  ⟨⟨#[115, 114, 108, 105]⟩, 7, 19, 5, 0⟩,
  ⟨⟨#[115, 114, 97, 105]⟩, 7, 19, 5, 32⟩,
  ⟨⟨#[97, 100, 100]⟩, 9, 51, 0, 0⟩,
  ⟨⟨#[115, 117, 98]⟩, 9, 51, 0, 32⟩,
  ⟨⟨#[115, 108, 108]⟩, 9, 51, 1, 0⟩,
  ⟨⟨#[115, 108, 116]⟩, 9, 51, 2, 0⟩,
  ⟨⟨#[115, 108, 116, 117]⟩, 9, 51, 3, 0⟩,
  ⟨⟨#[120, 111, 114]⟩, 9, 51, 4, 0⟩,
  ⟨⟨#[115, 114, 108]⟩, 9, 51, 5, 0⟩,
  ⟨⟨#[115, 114, 97]⟩, 9, 51, 5, 32⟩,
  ⟨⟨#[111, 114]⟩, 9, 51, 6, 0⟩,
  ⟨⟨#[97, 110, 100]⟩, 9, 51, 7, 0⟩,
  ⟨⟨#[97, 100, 100, 105, 119]⟩, 3, 27, 0, 0⟩,
  ⟨⟨#[115, 108, 108, 105, 119]⟩, 8, 27, 1, 0⟩,
  ⟨⟨#[115, 114, 108, 105, 119]⟩, 8, 27, 5, 0⟩,
  ⟨⟨#[115, 114, 97, 105, 119]⟩, 8, 27, 5, 32⟩,
  ⟨⟨#[97, 100, 100, 119]⟩, 9, 59, 0, 0⟩,
  ⟨⟨#[115, 117, 98, 119]⟩, 9, 59, 0, 32⟩,
  ⟨⟨#[115, 108, 108, 119]⟩, 9, 59, 1, 0⟩,
  ⟨⟨#[115, 114, 108, 119]⟩, 9, 59, 5, 0⟩,
  ⟨⟨#[115, 114, 97, 119]⟩, 9, 59, 5, 32⟩,
  ⟨⟨#[102, 101, 110, 99, 101]⟩, 10, 15, 0, 0⟩,
  ⟨⟨#[102, 101, 110, 99, 101, 46, 105]⟩, 10, 15, 1, 0⟩,
  ⟨⟨#[101, 99, 97, 108, 108]⟩, 11, 115, 0, 0⟩,
  ⟨⟨#[101, 98, 114, 101, 97, 107]⟩, 11, 115, 0, 1⟩,
  ⟨⟨#[99, 115, 114, 114, 119]⟩, 12, 115, 1, 0⟩,
  ⟨⟨#[99, 115, 114, 114, 115]⟩, 12, 115, 2, 0⟩,
  ⟨⟨#[99, 115, 114, 114, 99]⟩, 12, 115, 3, 0⟩,
  ⟨⟨#[99, 115, 114, 114, 119, 105]⟩, 13, 115, 5, 0⟩,
  ⟨⟨#[99, 115, 114, 114, 115, 105]⟩, 13, 115, 6, 0⟩,
  ⟨⟨#[99, 115, 114, 114, 99, 105]⟩, 13, 115, 7, 0⟩,
  ⟨⟨#[109, 117, 108]⟩, 9, 51, 0, 1⟩,
  ⟨⟨#[109, 117, 108, 104]⟩, 9, 51, 1, 1⟩,
  ⟨⟨#[109, 117, 108, 104, 115, 117]⟩, 9, 51, 2, 1⟩,
  ⟨⟨#[109, 117, 108, 104, 117]⟩, 9, 51, 3, 1⟩,
  ⟨⟨#[100, 105, 118]⟩, 9, 51, 4, 1⟩,
  ⟨⟨#[100, 105, 118, 117]⟩, 9, 51, 5, 1⟩,
  ⟨⟨#[114, 101, 109]⟩, 9, 51, 6, 1⟩,
  ⟨⟨#[114, 101, 109, 117]⟩, 9, 51, 7, 1⟩,
  ⟨⟨#[109, 117, 108, 119]⟩, 9, 59, 0, 1⟩,
  ⟨⟨#[100, 105, 118, 119]⟩, 9, 59, 4, 1⟩,
  ⟨⟨#[100, 105, 118, 117, 119]⟩, 9, 59, 5, 1⟩,
  ⟨⟨#[114, 101, 109, 119]⟩, 9, 59, 6, 1⟩,
  ⟨⟨#[114, 101, 109, 117, 119]⟩, 9, 59, 7, 1⟩,
  ⟨⟨#[108, 114, 46, 119]⟩, 14, 47, 2, 2⟩,
  ⟨⟨#[115, 99, 46, 119]⟩, 15, 47, 2, 3⟩,
  ⟨⟨#[97, 109, 111, 115, 119, 97, 112, 46, 119]⟩, 15, 47, 2, 1⟩,
  ⟨⟨#[97, 109, 111, 97, 100, 100, 46, 119]⟩, 15, 47, 2, 0⟩,
  ⟨⟨#[97, 109, 111, 120, 111, 114, 46, 119]⟩, 15, 47, 2, 4⟩,
  ⟨⟨#[97, 109, 111, 97, 110, 100, 46, 119]⟩, 15, 47, 2, 12⟩,
  ⟨⟨#[97, 109, 111, 111, 114, 46, 119]⟩, 15, 47, 2, 8⟩,
  ⟨⟨#[97, 109, 111, 109, 105, 110, 46, 119]⟩, 15, 47, 2, 16⟩,
  ⟨⟨#[97, 109, 111, 109, 97, 120, 46, 119]⟩, 15, 47, 2, 20⟩,
  ⟨⟨#[97, 109, 111, 109, 105, 110, 117, 46, 119]⟩, 15, 47, 2, 24⟩,
  ⟨⟨#[97, 109, 111, 109, 97, 120, 117, 46, 119]⟩, 15, 47, 2, 28⟩,
  ⟨⟨#[108, 114, 46, 100]⟩, 14, 47, 3, 2⟩,
  ⟨⟨#[115, 99, 46, 100]⟩, 15, 47, 3, 3⟩,
  ⟨⟨#[97, 109, 111, 115, 119, 97, 112, 46, 100]⟩, 15, 47, 3, 1⟩,
  ⟨⟨#[97, 109, 111, 97, 100, 100, 46, 100]⟩, 15, 47, 3, 0⟩,
  ⟨⟨#[97, 109, 111, 120, 111, 114, 46, 100]⟩, 15, 47, 3, 4⟩,
  ⟨⟨#[97, 109, 111, 97, 110, 100, 46, 100]⟩, 15, 47, 3, 12⟩,
  ⟨⟨#[97, 109, 111, 111, 114, 46, 100]⟩, 15, 47, 3, 8⟩,
  ⟨⟨#[97, 109, 111, 109, 105, 110, 46, 100]⟩, 15, 47, 3, 16⟩,
  ⟨⟨#[97, 109, 111, 109, 97, 120, 46, 100]⟩, 15, 47, 3, 20⟩,
  ⟨⟨#[97, 109, 111, 109, 105, 110, 117, 46, 100]⟩, 15, 47, 3, 24⟩,
  ⟨⟨#[97, 109, 111, 109, 97, 120, 117, 46, 100]⟩, 15, 47, 3, 28⟩,
  ⟨⟨#[109, 114, 101, 116]⟩, 11, 115, 0, 770⟩,
  ⟨⟨#[115, 114, 101, 116]⟩, 11, 115, 0, 258⟩,
  ⟨⟨#[119, 102, 105]⟩, 11, 115, 0, 261⟩,
  ⟨⟨#[115, 102, 101, 110, 99, 101, 46, 118, 109, 97]⟩, 16, 115, 0, 9⟩]

def allRows : List Row := row0 :: rows
def flat : List Row → List Value
  | [] => []
  | r :: l => r.v ++ flat l
def tabCells : Array Value := (flat allRows).toArray

theorem flat_at (l : List Row) : ∀ (i : Nat) (h : i < l.length), ((flat l).drop (5 * i)).take 5 = (l[i]).v := by
  induction l with
  | nil => intro i h; simp at h
  | cons r l ih =>
    intro i h
    cases i with
    | zero => simp [flat, Row.v]
    | succ i =>
      have e : 5 * (i + 1) = 5 + 5 * i := by omega
      rw [e]
      have : (flat (r :: l)).drop (5 + 5 * i) = (flat l).drop (5 * i) := by
        simp only [flat]
        rw [← List.drop_drop]
        congr 1
      rw [this, ih i (by simpa using h)]
      simp

theorem flat_len (l : List Row) : (flat l).length = 5 * l.length := by
  induction l with
  | nil => rfl
  | cons r l ih => simp only [flat, List.length_append, List.length_cons, ih, Row.v, List.length_nil]; omega

theorem tab_size : tabCells.size = 495 := by
  unfold tabCells; rw [List.size_toArray, flat_len]; rfl

theorem Row.v_one (r : Row) : ∀ v ∈ r.v, v.oneCell' = true := by
  intro v hv
  simp only [Row.v, List.mem_cons, List.not_mem_nil, or_false] at hv
  rcases hv with rfl | rfl | rfl | rfl | rfl <;> rfl

theorem flat_one (l : List Row) : ∀ v ∈ flat l, v.oneCell' = true := by
  induction l with
  | nil => intro v hv; simp [flat] at hv
  | cons r l ih =>
    intro v hv
    rcases List.mem_append.1 hv with h | h
    · exact r.v_one v h
    · exact ih v h

theorem tab_one : tabCells.all (·.oneCell') = true := by
  unfold tabCells
  rw [List.all_toArray, List.all_eq_true]
  exact flat_one _

def zeroCells : Array Value := (Array.replicate 99 #[Value.string ⟨#[]⟩, .int .i64 0, .int .u32 0, .int .u32 0, .int .u32 0]).flatten
theorem zero_size : zeroCells.size = tabCells.size := by rw [tab_size]; simp [zeroCells]

theorem tab_info : (Tryd.prog.info? 61).map (fun i => (i.zero, i.size)) = some (some (.agg zeroCells), 495) := by kernel_rfl
theorem row_info : (Tryd.prog.info? 60).map (·.size) = some 5 := by kernel_rfl

set_option maxHeartbeats 1000000 in
set_option maxRecDepth 100000 in
theorem table_any (w : World) :
    Calls Tryd.prog 28 #[] w fun e w' => e = .returned (.agg tabCells) ∧ w.alloc (.cells tabCells 61) = w' := by
  obtain ⟨hz, hs⟩ := zero_of_info tab_info
  have hs' : (Tryd.prog.info? 61).map (·.size) = some tabCells.size := by rw [hs, tab_size]
  go_enter Tryd.func28, Tryd.ntmps28
  apply wp_seq_k; intro K1 hK1
  apply wp_region_lit
  refine wpList_plain rfl fun K hK => ?_
  unfold Oper.wp
  rw [show ∀ (a : Act), (execOp a.eval { dst := some 0, op := Op.alloc 61, type := 0, pos := "table.go:35", after := #[], guard := none }).run Tryd.prog w = .ok (.value (.pointer (some ⟨w.heap.size, 0, none⟩))) (w.alloc (.cells zeroCells 61)) from fun a => by simp [execOp, go_sem, hz]]
  rw [Oper.upon_value]
  refine hK _ _ (wpList_nil ?_)
  clear hK K
  refine hK1 _ _ ?_
  clear hK1 K1
  apply wp_seq_k; intro K1 hK1
  refine wp_region_slots _ 99 _ (fun t => (t.getD 0 undef, t.getD 99 undef)) (.pointer (some ⟨w.heap.size, 0, none⟩), .agg tabCells) none (Op.store 61 (.tmp 0) (.tmp 99)) (by kernel_rfl) (by kernel_rfl) ?_
  intro o ops t' ho1 ho2 ho3 ht
  obtain ⟨h0, h99⟩ := Prod.mk.inj ht
  refine wpList_plain ho3 fun K hK => ?_
  unfold Oper.wp
  have hrun := run_storeAt_new (P := Tryd.prog) w 61 _ tabCells hs' zero_size tab_one
  have hx : (execOp (Act.eval { tmps := t', defers := [] }) o).run Tryd.prog (w.alloc (Obj.cells zeroCells 61)) = .ok .skip (w.alloc (Obj.cells tabCells 61)) := by
    simp only [execOp, ho2, Act.eval, h0, h99]
    simp only [Sem.run_bind, hrun, Result.andThen_ok, Sem.run_pure]
  rw [hx, Oper.upon_skip, ho1]
  refine hK _ _ (wpList_nil ?_)
  clear hK K
  refine hK1 _ _ ?_
  clear hK1 K1
  apply wp_ret
  refine bodyPost_ret (v := .agg tabCells) ?_ rfl ⟨rfl, rfl⟩
  exact results_cell_row rfl _ _ w.heap.size 61 tabCells (0, 0) _ (by simpa [Act.put] using h0) (heap_alloc_last w _) Tryd.underlying61 rfl hs'

/-- The row of an operation's number. -/
def rowAt (op : Int) : Row := allRows.getD op.toNat row0

theorem run_tab (op : Int) (h0 : 0 ≤ op) (h1 : op ≤ 98) (w : World) :
    (Instr.index 61 (.agg tabCells) (.int .i64 op)).run Tryd.prog w = .ok (.agg #[.string (rowAt op).name, .int .i64 (rowAt op).form, .int .u32 (rowAt op).code, .int .u32 (rowAt op).f3, .int .u32 (rowAt op).f7]) w := by
  obtain ⟨i, rfl⟩ := Int.eq_ofNat_of_zero_le h0
  have hl : allRows.length = 99 := rfl
  have hi : i < allRows.length := by omega
  have hf := flat_at allRows i hi
  have hrow : rowAt (i : Int) = allRows[i] := by
    unfold rowAt
    rw [Int.toNat_natCast, List.getD_eq_getElem?_getD, List.getElem?_eq_getElem hi, Option.getD_some]
  have hx : tabCells.extract (i * 5) (i * 5 + 5) = #[.string (rowAt i).name, .int .i64 (rowAt i).form, .int .u32 (rowAt i).code, .int .u32 (rowAt i).f3, .int .u32 (rowAt i).f7] := by
    apply Array.ext'
    rw [hrow]
    unfold tabCells
    rw [List.extract_toArray, List.extract_eq_take_drop, Nat.add_sub_cancel_left, Nat.mul_comm i 5, hf]
    rfl
  have hu := Tryd.underlying61
  have hz : (sizeOf 60).run Tryd.prog w = .ok 5 w := by
    have h := row_info
    cases hq : Tryd.prog.info? 60 with
    | none => simp [hq] at h
    | some j => simp [hq] at h; simp [sizeOf, typeInfo, hq, h]
  have hagg : (isAgg 60).run Tryd.prog w = .ok true w := by
    unfold isAgg
    rw [Sem.run_bind, run_underlying Tryd.underlying60 w]
    rfl
  have hc : (0 : Int) ≤ (i : Int) ∧ (i : Int) < ((99 : Nat) : Int) := ⟨h0, by omega⟩
  simp only [Instr.index, asIntOf, part, Sem.run_bind, Sem.run_pure, Result.andThen_ok, run_underlying hu w, if_pos hc, hz, hagg, Int.toNat_natCast, if_true, hx]

end Go.Proofs.YteidojpklpfdeaaDoor

/- The plain functions that the walks' contracts speak of: words, instructions as words. No program in it. -/
namespace Go.Proofs.YteidojpklpfdeaaDoor
open Go.RowKit
attribute [local go_sem] setCell_drewN alloc_drewN
set_option linter.unusedVariables false
set_option linter.unusedSimpArgs false

/-- n bits of a word from a place on. -/
def get (w at_ n : Int) : Int := if at_ < 0 then 0 else if 63 < at_ then 0 else w / 2 ^ at_.toNat % 2 ^ n.toNat

theorem get_nonneg (w a n : Int) : 0 ≤ get w a n := by
  unfold get
  split
  · omega
  · split
    · omega
    · exact Int.emod_nonneg _ (Int.pow_ne_zero (by decide))

theorem pow_toNat (k : Nat) : ((2 : Int) ^ k) = ((2 ^ k : Nat) : Int) := by simp

theorem mask_wrap (n : Int) (h0 : 0 < n) (h1 : n < 64) : IntKind.u64.wrap (IntKind.u64.wrap (2 ^ n.toNat) - 1) = 2 ^ n.toNat - 1 := by
  obtain ⟨k, rfl⟩ := Int.eq_ofNat_of_zero_le (Int.le_of_lt h0)
  rw [Int.toNat_natCast, IntKind.wrap_u64, IntKind.wrap_u64, pow_toNat]
  have h2 : 2 ^ k < 2 ^ 64 := Nat.pow_lt_pow_right (by omega) (by omega)
  have h3 : 0 < 2 ^ k := Nat.two_pow_pos k
  omega

theorem and_low (w : Int) (k : Nat) (h0 : 0 ≤ w) (h1 : w < 18446744073709551616) (hk : k < 64) : bits .and .u64 w (2 ^ k - 1) = w % 2 ^ k := by
  obtain ⟨v, rfl⟩ := Int.eq_ofNat_of_zero_le h0
  have h2 : 2 ^ k < 2 ^ 64 := Nat.pow_lt_pow_right (by omega) (by omega)
  have h3 : 0 < 2 ^ k := Nat.two_pow_pos k
  have e : ((2 : Int) ^ k - 1) = ((2 ^ k - 1 : Nat) : Int) := by rw [pow_toNat]; omega
  rw [e, u64_and_nat v _ (by omega) (by omega), Nat.and_two_pow_sub_one_eq_mod, pow_toNat]
  omega

theorem and_all (w : Int) (h0 : 0 ≤ w) (h1 : w < 18446744073709551616) : bits .and .u64 w 18446744073709551615 = w := by
  obtain ⟨v, rfl⟩ := Int.eq_ofNat_of_zero_le h0
  have := u64_and_nat v 18446744073709551615 (by omega) (by omega)
  rw [show ((18446744073709551615 : Int)) = ((18446744073709551615 : Nat) : Int) from rfl, this]
  have e := Nat.and_two_pow_sub_one_eq_mod v 64
  simp only [Nat.reducePow, Nat.reduceSub] at e
  rw [e]; omega

theorem and_zero (w : Int) (h0 : 0 ≤ w) (h1 : w < 18446744073709551616) : bits .and .u64 w 0 = 0 := by
  have := and_low w 0 h0 h1 (by omega)
  simpa using this

/-- So many low bits. -/
def mask (n : Int) : Int := if n ≤ 0 then 0 else if 64 ≤ n then 18446744073709551615 else 2 ^ n.toNat - 1

theorem and_mask (w n : Int) (h0 : 0 ≤ w) (h1 : w < 18446744073709551616) : bits .and .u64 w (mask n) = w % 2 ^ n.toNat := by
  unfold mask
  split
  · rw [and_zero w h0 h1, show n.toNat = 0 by omega]; simp
  · split
    · rw [and_all w h0 h1]
      have h2 : 2 ^ 64 ≤ 2 ^ n.toNat := Nat.pow_le_pow_right (by omega) (by omega)
      rw [pow_toNat, Int.emod_eq_of_lt h0 (by omega)]
    · exact and_low w _ h0 h1 (by omega)

theorem div_pow_lt (x a : Int) (h0 : 0 ≤ x) (h1 : x < 18446744073709551616) : 0 ≤ x / 2 ^ a.toNat ∧ x / 2 ^ a.toNat < 18446744073709551616 := by
  obtain ⟨v, rfl⟩ := Int.eq_ofNat_of_zero_le h0
  rw [pow_toNat]
  have h2 := Nat.div_le_self v (2 ^ a.toNat)
  rw [← Int.natCast_ediv]
  generalize v / 2 ^ a.toNat = q at *
  omega

theorem get_lt (w a n : Int) (h0 : 0 ≤ w) (h1 : w < 18446744073709551616) : get w a n < 18446744073709551616 := by
  unfold get
  split
  · omega
  · split
    · omega
    · have h := div_pow_lt w a h0 h1
      obtain ⟨v, hv⟩ := Int.eq_ofNat_of_zero_le h.1
      rw [hv, pow_toNat, ← Int.natCast_emod]
      have h3 := Nat.mod_le v (2 ^ n.toNat)
      generalize v % 2 ^ n.toNat = q at *
      omega

theorem mod_pow_lt (x n : Int) (h0 : 0 ≤ x) (h1 : x < 18446744073709551616) : x % 2 ^ n.toNat < 18446744073709551616 := by
  obtain ⟨v, rfl⟩ := Int.eq_ofNat_of_zero_le h0
  rw [pow_toNat, ← Int.natCast_emod]
  have h3 := Nat.mod_le v (2 ^ n.toNat)
  generalize v % 2 ^ n.toNat = q at *
  omega

/-- The low n bits of a word, the highest of them above them all. -/
def sext (x n : Int) : Int :=
  if n ≤ 0 then 0 else if 64 ≤ n then x
  else if get (x % 2 ^ n.toNat) (n - 1) 1 = 1 then bits .or .u64 (x % 2 ^ n.toNat) (bits .xor .u64 18446744073709551615 (mask n)) else x % 2 ^ n.toNat

/-- Some low bits of a number, moved to a place. -/
def place (v f n t : Int) : Int := get (v % 18446744073709551616) f n * 2 ^ t.toNat % 4294967296

/-- Which parts a form has, and how great its number may be. -/
structure Parts where
  rd : Bool
  rs1 : Bool
  rs2 : Bool
  imm : Bool
  csr : Bool
  order : Bool
  least : Int
  most : Int
  by_ : Int

def partsOf (f : Int) : Parts :=
  if f == 1 then ⟨true, false, false, true, false, false, -2147483648, 2147479552, 4096⟩
  else if f == 2 then ⟨true, false, false, true, false, false, -1048576, 1048574, 2⟩
  else if f == 3 then ⟨true, true, false, true, false, false, -2048, 2047, 1⟩
  else if f == 5 then ⟨true, true, false, true, false, false, -2048, 2047, 1⟩
  else if f == 4 then ⟨false, true, true, true, false, false, -4096, 4094, 2⟩
  else if f == 6 then ⟨false, true, true, true, false, false, -2048, 2047, 1⟩
  else if f == 7 then ⟨true, true, false, true, false, false, 0, 63, 1⟩
  else if f == 8 then ⟨true, true, false, true, false, false, 0, 31, 1⟩
  else if f == 9 then ⟨true, true, true, false, false, false, 0, 0, 0⟩
  else if f == 10 then ⟨true, true, false, true, false, false, 0, 4095, 1⟩
  else if f == 12 then ⟨true, true, false, false, true, false, 0, 0, 0⟩
  else if f == 13 then ⟨true, false, false, true, true, false, 0, 31, 1⟩
  else if f == 14 then ⟨true, true, false, false, false, true, 0, 0, 0⟩
  else if f == 15 then ⟨true, true, true, false, false, true, 0, 0, 0⟩
  else if f == 16 then ⟨false, true, true, false, false, false, 0, 0, 0⟩
  else ⟨false, false, false, false, false, false, 0, 0, 0⟩

def Parts.cells (p : Parts) : Array Value := #[.bool p.rd, .bool p.rs1, .bool p.rs2, .bool p.imm, .bool p.csr, .bool p.order, .int .i64 p.least, .int .i64 p.most, .int .i64 p.by_]
def Parts.v (p : Parts) : Value := .agg p.cells

/-- An instruction. -/
structure Ins where
  op : Int
  rd : Int
  rs1 : Int
  rs2 : Int
  imm : Int
  csr : Int
  aq : Bool
  rl : Bool
  deriving DecidableEq

def Ins.v (x : Ins) : Value := .agg #[.int .i64 x.op, .int .i64 x.rd, .int .i64 x.rs1, .int .i64 x.rs2, .int .i64 x.imm, .int .i64 x.csr, .bool x.aq, .bool x.rl]

/-- Is a number a register's, or 0 where there is none? -/
def regOk (n : Int) (there : Bool) : Bool := if there then decide (0 ≤ n ∧ n < 32) else decide (n = 0)

/-- The bits that tell an operation of a form. -/
def maskOf (f : Int) : Int :=
  if f == 1 then 127 else if f == 2 then 127 else if f == 7 then 4227887231 else if f == 8 then 4261441663 else if f == 9 then 4261441663
  else if f == 11 then 4294967295 else if f == 14 then 4193284223 else if f == 15 then 4160778367 else if f == 16 then 4261445631 else 28799

def or32 (a b : Int) : Int := bits .or .u32 a b

/-- What a form has besides its registers. -/
def restOf (f f7 imm csr : Int) (aq rl : Bool) : Int :=
  if f == 1 then place imm 12 20 12
  else if f == 2 then or32 (or32 (or32 (place imm 20 1 31) (place imm 1 10 21)) (place imm 11 1 20)) (place imm 12 8 12)
  else if f == 3 || f == 5 || f == 10 then place imm 0 12 20
  else if f == 4 then or32 (or32 (or32 (place imm 12 1 31) (place imm 5 6 25)) (place imm 1 4 8)) (place imm 11 1 7)
  else if f == 6 then or32 (place imm 5 7 25) (place imm 0 5 7)
  else if f == 7 || f == 8 then or32 (place imm 0 6 20) (f7 * 33554432 % 4294967296)
  else if f == 11 then f7 * 1048576 % 4294967296
  else if f == 12 then csr % 4294967296 * 1048576 % 4294967296
  else if f == 13 then or32 (csr % 4294967296 * 1048576 % 4294967296) (place imm 0 5 15)
  else if f == 14 || f == 15 then
    let w := f7 * 134217728 % 4294967296
    let w := if aq then or32 w 67108864 else w
    if rl then or32 w 33554432 else w
  else f7 * 33554432 % 4294967296

end Go.Proofs.YteidojpklpfdeaaDoor

/- The walks of package word: Mask, Get, Bit, Sext. -/
namespace Go.Proofs.YteidojpklpfdeaaDoor
open Go.RowKit
attribute [local go_sem] setCell_drewN alloc_drewN
set_option linter.unusedVariables false
set_option linter.unusedSimpArgs false

set_option maxHeartbeats 400000 in
theorem mask_any (n : Int) (w : World) :
    Calls Tryd.prog 100 #[.int .i64 n] w fun e w' => e = .returned (.int .u64 (mask n)) ∧ w = w' := by
  by_cases h1 : n ≤ 0
  · go_enter Tryd.func100, Tryd.ntmps100
    go_wp2
    go_ret
    exact ⟨by simp [mask, h1], rfl⟩
  · by_cases h2 : n ≥ 64
    · go_enter Tryd.func100, Tryd.ntmps100
      go_wp2
      go_ret
      exact ⟨by simp [mask, h1, h2], rfl⟩
    · go_enter Tryd.func100, Tryd.ntmps100
      go_wp2
      go_ret
      exact ⟨ret_int (by unfold mask; rw [if_neg (by omega), if_neg (by omega), mask_wrap n (by omega) (by omega)]), rfl⟩

set_option maxHeartbeats 400000 in
theorem get_any (x a n : Int) (w : World) (h0 : 0 ≤ x) (h1 : x < 18446744073709551616) :
    Calls Tryd.prog 71 #[.int .u64 x, .int .i64 a, .int .i64 n] w fun e w' => e = .returned (.int .u64 (get x a n)) ∧ ∃ k, w' = w.drewN k := by
  by_cases c1 : a < 0
  · go_enter Tryd.func71, Tryd.ntmps71
    go_wp2
    go_ret
    exact ⟨by simp [get, c1], 0, rfl⟩
  · by_cases c2 : 63 < a
    · go_enter Tryd.func71, Tryd.ntmps71
      go_wp2
      go_ret
      exact ⟨by simp [get, c1, c2], 0, rfl⟩
    · have c3 : 0 ≤ a := by omega
      have H := hid h1; clear h1
      go_enter Tryd.func71, Tryd.ntmps71
      go_wp2
      go_quiet ((go_at_call 100; exact Calls.quiet_of_same ((mask_any _ _).mono fun _ _ h => ⟨h.1, h.2.symm⟩)))
      go_wp2
      go_ret
      have e : bits .and .u64 (x / 2 ^ a.toNat) (mask n) = x / 2 ^ a.toNat % 2 ^ n.toNat :=
        and_mask _ _ (div_pow_lt x a h0 H.out).1 (div_pow_lt x a h0 H.out).2
      exact ⟨ret_int (by unfold get; rw [if_neg (by omega), if_neg (by omega), e]), _, rfl⟩

set_option maxHeartbeats 400000 in
theorem bit_any (x a : Int) (w : World) (h0 : 0 ≤ x) (h1 : x < 18446744073709551616) :
    Calls Tryd.prog 72 #[.int .u64 x, .int .i64 a] w fun e w' => e = .returned (.bool (get x a 1 == 1)) ∧ ∃ k, w' = w.drewN k := by
  have H := hid h1; clear h1
  go_enter Tryd.func72, Tryd.ntmps72
  go_wp2_with (go_at_call 71; refine (get_any _ _ _ _ (by assumption) H.out).mono ?_; rintro e w' ⟨rfl, k, rfl⟩)
  go_ret
  exact ⟨ret_bool rfl, _, rfl⟩

set_option maxHeartbeats 400000 in
theorem sext_any (x n : Int) (w : World) (h0 : 0 ≤ x) (h1 : x < 18446744073709551616) (hn0 : 0 < n) (hn1 : n < 64) :
    Calls Tryd.prog 101 #[.int .u64 x, .int .i64 n] w fun e w' => e = .returned (.int .u64 (sext x n)) ∧ ∃ k, w' = w.drewN k := by
  have e := and_mask x n h0 h1
  have hb0 : 0 ≤ x % 2 ^ n.toNat := Int.emod_nonneg _ (Int.pow_ne_zero (by decide))
  have hb1 := mod_pow_lt x n h0 h1
  have H := hid h1; clear h1
  have E := hid e; clear e
  have HB := hid hb1; clear hb1
  go_enter Tryd.func101, Tryd.ntmps101
  go_wp2_with fail
  refine (mask_any _ _).mono ?_
  rintro e w' ⟨rfl, rfl⟩
  go_wp2_with fail
  rw [E.out]
  refine (bit_any _ _ _ hb0 HB.out).mono ?_
  rintro e w' ⟨rfl, k, rfl⟩
  go_wp2_with fail
  · refine (mask_any _ _).mono ?_
    rintro e w' ⟨rfl, rfl⟩
    go_wp2_with fail
    go_ret
    exact ⟨ret_int (by unfold sext; rw [if_neg (by omega), if_neg (by omega), if_pos (by simpa using ‹(get _ _ _ == 1) = true›)]; rfl), k, rfl⟩
  · go_ret
    exact ⟨ret_int (by unfold sext; rw [if_neg (by omega), if_neg (by omega), if_neg (by simpa using ‹(get _ _ _ == 1) = false›)]), k, rfl⟩

end Go.Proofs.YteidojpklpfdeaaDoor

/- The walks of package inst: what touches a number or two. -/
namespace Go.Proofs.YteidojpklpfdeaaDoor
open Go.RowKit
attribute [local go_sem] setCell_drewN alloc_drewN
set_option linter.unusedVariables false
set_option linter.unusedSimpArgs false

set_option maxHeartbeats 400000 in
theorem known_any (op : Int) (w : World) :
    Calls Tryd.prog 43 #[.int .i64 op] w fun e w' => e = .returned (.bool (decide (1 ≤ op ∧ op ≤ 98))) ∧ w = w' := by
  by_cases h1 : 1 ≤ op
  · go_enter Tryd.func43, Tryd.ntmps43
    go_wp2
    go_ret
    exact ⟨ret_bool (by simp [h1]), rfl⟩
  · go_enter Tryd.func43, Tryd.ntmps43
    go_wp2
    go_ret
    exact ⟨ret_bool (by simp; omega), rfl⟩

set_option maxHeartbeats 400000 in
theorem reg_any (n : Int) (b : Bool) (w : World) :
    Calls Tryd.prog 45 #[.int .i64 n, .bool b] w fun e w' => e = .returned (.bool (regOk n b)) ∧ w = w' := by
  cases b with
  | true =>
    by_cases h : 0 ≤ n
    all_goals
      go_enter Tryd.func45, Tryd.ntmps45
      go_wp2
      go_ret
      exact ⟨ret_bool (by simp [regOk]; try omega), rfl⟩
  | false =>
    go_enter Tryd.func45, Tryd.ntmps45
    go_wp2
    go_ret
    exact ⟨ret_bool (by simp [regOk]; rfl), rfl⟩

set_option maxHeartbeats 400000 in
theorem at_any (v f n t : Int) (w : World) (hf : 0 ≤ t) (ht : t ≤ 31) :
    Calls Tryd.prog 92 #[.int .i64 v, .int .i64 f, .int .i64 n, .int .i64 t] w fun e w' => e = .returned (.int .u32 (place v f n t)) ∧ ∃ k, w' = w.drewN k := by
  go_enter Tryd.func92, Tryd.ntmps92
  go_wp2_with fail
  refine (get_any _ _ _ _ (by rw [IntKind.wrap_u64]; omega) (by rw [IntKind.wrap_u64]; omega)).mono ?_
  rintro e w' ⟨rfl, k, rfl⟩
  go_wp2_with fail
  go_ret
  exact ⟨ret_int (by unfold place; rw [IntKind.wrap_u64, IntKind.wrap_u64]; omega), k, rfl⟩

set_option maxHeartbeats 400000 in
theorem maskOf_any (f : Int) (w : World) :
    Calls Tryd.prog 29 #[.int .i64 f] w fun e w' => e = .returned (.int .u32 (maskOf f)) ∧ w = w' := by
  go_enter Tryd.func29, Tryd.ntmps29
  go_wp2
  all_goals
    go_ret
    exact ⟨ret_int (by simp only [maskOf, *, if_true, if_false, Bool.false_eq_true]), rfl⟩

set_option maxHeartbeats 1000000 in
theorem of_any (f : Int) (w : World) :
    Calls Tryd.prog 44 #[.int .i64 f] w fun e w' => e = .returned (partsOf f).v ∧ w.alloc (.cells (partsOf f).cells 71) = w' := by
  go_enter Tryd.func44, Tryd.ntmps44
  go_wp2
  all_goals
    have hp : partsOf f = partsOf f := rfl
    conv at hp => rhs; simp only [partsOf, *, if_true, if_false, Bool.false_eq_true]
    rw [hp]
    refine bodyPost_ret (v := Parts.v _) (by simp [results, Tryd.results44, go_sem, Parts.v, Parts.cells]) rfl ⟨rfl, rfl⟩

end Go.Proofs.YteidojpklpfdeaaDoor
