/- Small lemmas of the walks: a row of operations that only reckon, run as one. -/
import Derived.Test.YthifnlhbioaihaaProg
import Derived.WalkKit
import Derived.WalkSpells
import Derived.WalkLawsBesides
import Derived.Deep.QuietTactic
import Derived.BigQuiet
import Derived.Deep.WholeRow
import Derived.Laws.ResultCell
namespace Go.Proofs.Ythifnlhbioaihaa
open Go.RowKit
set_option linter.unusedVariables false
set_option linter.unusedSimpArgs false

theorem ret_int {k : IntKind} {a b : Int} (h : a = b) : Ending.returned (.int k a) = .returned (.int k b) := by rw [h]
theorem ret_bool {a b : Bool} (h : a = b) : Ending.returned (.bool a) = .returned (.bool b) := by rw [h]
theorem ret_str {a b : ByteArray} (h : a = b) : Ending.returned (.string a) = .returned (.string b) := by rw [h]
theorem hid {p : Prop} (h : p) : Hid p := h

theorem bel_drewN {B : Nat} {a w : World} {n : Nat} (h : Below B a w) : Below B a (w.drewN n) := ⟨h.os, h.tape, h.output, h.size, h.block⟩

@[go_sem] theorem setCell_drewN (w : World) (n : Nat) (a : Addr) (v : Value) : (w.drewN n).setCell a v = (w.setCell a v).drewN n := rfl
@[go_sem] theorem alloc_drewN (w : World) (n : Nat) (o : Obj) : (w.drewN n).alloc o = (w.alloc o).drewN n := rfl

/-- What a computation comes to that touches no memory. -/
def pureOf {α : Type} (P : Program) : Sem α → Option α
  | .pure a => some a
  | .program k => pureOf P (k P)
  | .mark _ k => pureOf P k
  | _ => none

theorem run_of_pure {α : Type} {P : Program} {s : Sem α} {a : α} (h : pureOf P s = some a) (w : World) : s.run P w = .ok a w := by
  induction s with
  | pure b => simp only [pureOf, Option.some.injEq] at h; subst h; rfl
  | program k ih => exact ih P h
  | mark m k ih => exact ih h
  | _ => simp [pureOf] at h

/-- The slots behind a row of operations that touch no memory. -/
def valsOf (P : Program) : List Oper → Array Value → Option (Array Value)
  | [], t => some t
  | o :: rest, t =>
    if o.guard.isNone then
      match pureOf P (execOp (Act.eval { tmps := t, defers := [] }) o) with
      | some (.value v) => valsOf P rest (match o.dst with | some d => t.setIfInBounds d v | none => t)
      | _ => none
    else none

theorem wpList_vals {P : Program} {ops : Array Oper} {Q : Exit → Act → World → Prop} {rest : List Oper} {w : World} (l : List Oper) :
    ∀ (t t' : Array Value), valsOf P l t = some t' → wpList P ops Q rest { tmps := t', defers := [] } w → wpList P ops Q (l ++ rest) { tmps := t, defers := [] } w := by
  induction l with
  | nil => intro t t' h hn; simp only [valsOf, Option.some.injEq] at h; subst h; exact hn
  | cons o l ih =>
    intro t t' h hn
    simp only [valsOf] at h
    split at h
    · rename_i hg
      split at h
      · rename_i v hv
        have hg' : o.guard = none := by simpa using hg
        refine wpList_plain hg' fun K hK => ?_
        unfold Oper.wp
        rw [run_of_pure hv w, Oper.upon_value]
        refine hK _ _ ?_
        have := ih _ _ h hn
        cases hd : o.dst <;> simpa [Act.put, hd] using this
      · cases h
    · cases h

/-- As many operations of a row as one likes, run as one: what the rest needs of the slots behind them. -/
theorem wpList_slots {P : Program} {ops : Array Oper} {Q : Exit → Act → World → Prop} {w : World} {β : Type} (L : List Oper) (n : Nat) (t : Array Value) (f : Array Value → β) (b : β)
    (h : (valsOf P (L.take n) t).map f = some b) (hn : ∀ t', f t' = b → wpList P ops Q (L.drop n) { tmps := t', defers := [] } w) : wpList P ops Q L { tmps := t, defers := [] } w := by
  cases hv : valsOf P (L.take n) t with
  | none => simp [hv] at h
  | some t' =>
    rw [← List.take_append_drop n L]
    exact wpList_vals _ _ _ hv (hn t' (by simpa [hv] using h))

/-- A region whose operations but the last only reckon. -/
theorem wp_region_slots {P : Program} {Q : Exit → Act → World → Prop} {w : World} {β : Type} {id : Nat} (L : List Oper) (n : Nat) (t : Array Value) (f : Array Value → β) (b : β) (d : Option Tmp) (op : Op)
    (h : (valsOf P (L.take n) t).map f = some b) (hr : (L.drop n).map (fun o => (o.dst, o.op, o.guard)) = [(d, op, none)])
    (hn : ∀ (o : Oper) ops t', o.dst = d → o.op = op → o.guard = none → f t' = b → wpList P ops Q [o] { tmps := t', defers := [] } w) : (Code.region id L.toArray false).wp P Q { tmps := t, defers := [] } w := by
  apply wp_region_lit
  refine wpList_slots L n t f b h fun t' ht => ?_
  cases hL : L.drop n with
  | nil => simp [hL] at hr
  | cons o l =>
    rw [hL] at hr
    simp only [List.map_cons, List.cons.injEq, Prod.mk.injEq, List.map_eq_nil_iff] at hr
    obtain ⟨⟨h1, h2, h3⟩, rfl⟩ := hr
    exact hn o _ t' h1 h2 h3 ht

end Go.Proofs.Ythifnlhbioaihaa
