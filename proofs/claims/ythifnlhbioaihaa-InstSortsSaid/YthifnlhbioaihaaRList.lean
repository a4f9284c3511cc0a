/- The walk of vireoref03.Rows: the list of all rows. -/
import Derived.Test.YthifnlhbioaihaaInst
namespace Go.Proofs.Ythifnlhbioaihaa
open Go.RowKit
set_option linter.unusedVariables false
set_option linter.unusedSimpArgs false

/-- What a computation makes first: one block; and what it then comes to. -/
def newOf {α : Type} (P : Program) : Sem α → Option (Obj × (Nat → Sem α))
  | .new o k => some (o, k)
  | .program k => newOf P (k P)
  | .mark _ k => newOf P k
  | _ => none

theorem run_of_new {α : Type} {P : Program} {s : Sem α} {o : Obj} {k : Nat → Sem α} (h : newOf P s = some (o, k)) (w : World) : s.run P w = (k w.heap.size).run P (w.alloc o) := by
  induction s with
  | new o' k' ih => simp only [newOf, Option.some.injEq, Prod.mk.injEq] at h; obtain ⟨rfl, rfl⟩ := h; rfl
  | program k' ih => exact ih P h
  | mark m k' ih => exact ih h
  | _ => simp [newOf] at h

/-- The block and the value of an operation that makes one block, behind slots t. -/
def madeBy (P : Program) (t : Array Value) (o : Oper) : Option (Obj × (Nat → Option Next)) :=
  (newOf P (execOp (Act.eval { tmps := t, defers := [] }) o)).map fun x => (x.1, fun r => pureOf P (x.2 r))

theorem wp_region_made {P : Program} {Q : Exit → Act → World → Prop} {w : World} {id : Nat} (L : List Oper) (n : Nat) (t : Array Value) (ob : Obj) (v : Nat → Value) (d d2 N : Nat)
    (hr : (L.drop n).map (fun o => (o.dst, o.guard.isNone)) = [(some d, true), (some d2, true)])
    (h2 : (L.drop n).tail.map (·.op) = [.assign (.tmp d)])
    (h : (valsOf P (L.take n) t).map (fun t' => (t'.size, (L.drop n).head?.bind (madeBy P t'))) = some (N, some (ob, fun r => some (.value (v r)))))
    (hd : d < N) (hd2 : d2 < N)
    (hn : ∀ t'' : Array Value, t''.getD d2 undef = v w.heap.size → Q .normal { tmps := t'', defers := [] } (w.alloc ob)) : (Code.region id L.toArray false).wp P Q { tmps := t, defers := [] } w := by
  apply wp_region_lit
  cases hv : valsOf P (L.take n) t with
  | none => simp [hv] at h
  | some t' =>
    refine Eq.subst (motive := fun l => wpList P L.toArray Q l { tmps := t, defers := [] } w) (List.take_append_drop n L) ?_
    refine wpList_vals _ _ _ hv ?_
    rw [hv] at h
    generalize hl : L.drop n = l at *
    obtain ⟨o, o2, rfl⟩ : ∃ o o2, l = [o, o2] := by
      have hlen := congrArg List.length hr
      simp only [List.length_map, List.length_cons, List.length_nil] at hlen
      rcases l with _ | ⟨o, _ | ⟨o2, _ | ⟨o3, l⟩⟩⟩
      · simp at hlen
      · simp at hlen
      · exact ⟨o, o2, rfl⟩
      · simp at hlen
    simp only [List.map_cons, List.map_nil, List.cons.injEq, Prod.mk.injEq, and_true] at hr
    obtain ⟨⟨h3, h4⟩, h5, h6⟩ := hr
    simp only [List.tail_cons, List.map_cons, List.map_nil, List.cons.injEq, and_true] at h2
    simp only [Option.map_some, Option.some.injEq, Prod.mk.injEq, List.head?_cons, Option.bind_some] at h
    obtain ⟨h7, h8⟩ := h
    unfold madeBy at h8
    cases hm : newOf P (execOp (Act.eval { tmps := t', defers := [] }) o) with
    | none => simp [hm] at h8
    | some x =>
      obtain ⟨o', k'⟩ := x
      rw [hm] at h8
      simp only [Option.map_some, Option.some.injEq, Prod.mk.injEq] at h8
      obtain ⟨rfl, h9⟩ := h8
      have h10 : pureOf P (k' w.heap.size) = some (.value (v w.heap.size)) := congrFun h9 w.heap.size
      refine wpList_plain (by simpa using h4) fun K hK => ?_
      unfold Oper.wp
      rw [run_of_new hm w, run_of_pure h10, Oper.upon_value, h3]
      refine hK _ _ ?_
      refine wpList_plain (by simpa using h6) fun K2 hK2 => ?_
      unfold Oper.wp
      have h11 : (execOp (Act.eval (Act.put { tmps := t', defers := [] } (some d) (v w.heap.size))) o2).run P (w.alloc o') = .ok (.value (v w.heap.size)) (w.alloc o') := by
        simp [execOp, h2, Act.eval, Act.put, h7, hd, Array.getElem?_setIfInBounds]
      rw [h11, Oper.upon_value, h5]
      refine hK2 _ _ (wpList_nil ?_)
      refine hn _ ?_
      simp [Act.put, h7, hd2, Array.getElem?_setIfInBounds]

theorem run_assign_const {P : Program} {a : Act} {o : Oper} {v : Value} {w : World} (h : o.op = .assign (.const v)) : (execOp a.eval o).run P w = .ok (.value v) w := by simp [execOp, h, Act.eval]

/-- A row of the list, as values. -/
def Row.rv (r : Row) : List Value := [.string r.name, .int .i64 r.form, .int .i64 r.code, .int .i64 r.f3, .int .i64 r.f7]
def rflat : List Row → List Value
  | [] => []
  | r :: l => r.rv ++ rflat l
def rowsCells : Array Value := (rflat rows).toArray

theorem rflat_at (l : List Row) : ∀ (i : Nat) (h : i < l.length) (j : Nat), j < 5 → (rflat l)[5 * i + j]? = (l[i]).rv[j]? := by
  induction l with
  | nil => intro i h; simp at h
  | cons r l ih =>
    intro i h j hj
    cases i with
    | zero =>
      simp only [rflat, List.getElem_cons_zero]
      rw [List.getElem?_append_left (by simp [Row.rv]; omega)]
      simp
    | succ i =>
      simp only [rflat, List.getElem_cons_succ]
      rw [List.getElem?_append_right (by simp [Row.rv]; omega)]
      have := ih i (by simpa using h) j hj
      rw [← this]
      congr 1
      simp [Row.rv]; omega

set_option maxHeartbeats 1000000 in
set_option maxRecDepth 100000 in
theorem rows_any (w : World) :
    Calls Try.prog 17 #[] w fun e w' => e = .returned (.slice (some ⟨w.heap.size, 0, none⟩) 98 98) ∧ w.alloc (.cells rowsCells 39) = w' := by
  go_enter Try.func17, Try.ntmps17
  apply wp_seq_k; intro K1 hK1
  apply wp_region_lit
  refine wpList_plain rfl fun K hK => ?_
  unfold Oper.wp
  rw [run_assign_const (v := .slice none 0 0) rfl]
  rw [Oper.upon_value]
  refine hK _ _ (wpList_nil ?_)
  clear hK K
  refine hK1 _ _ ?_
  clear hK1 K1
  apply wp_seq_k; intro K2 hK2
  refine wp_region_made _ 98 _ (.cells rowsCells 39) (fun r => .slice (some ⟨r, 0, none⟩) 98 98) 99 0 100 (by kernel_rfl) (by kernel_rfl) (by kernel_rfl) (by decide) (by decide) ?_
  intro t'' ht
  refine hK2 _ _ ?_
  clear hK2 K2
  apply wp_ret
  exact bodyPost_ret (v := .slice (some ⟨w.heap.size, 0, none⟩) 98 98) (by rw [results_tmp rfl]; exact congrArg (fun v => Result.ok v _) ht) rfl ⟨rfl, rfl⟩

end Go.Proofs.Ythifnlhbioaihaa
