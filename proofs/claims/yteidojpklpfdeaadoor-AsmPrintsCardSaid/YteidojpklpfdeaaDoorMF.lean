/- The walk of vireoref03.Rows: the list of all rows. The walks of vireoref03: Known, in, Rd, Rs1, Rs2, Imm, Of. The walks of vireoref03: Right, part, number, Word. vireoref03.Right of any instruction; the row of any operation. -/
import Derived.Test.YteidojpklpfdeaaDoorMA
import Derived.Test.YteidojpklpfdeaaDoorMB
import Derived.Test.YteidojpklpfdeaaDoorMC
import Derived.Deep.DeepCutAuto
import Derived.Deep.CutBlock
/- The walk of vireoref03.Rows: the list of all rows. -/
namespace Go.Proofs.YteidojpklpfdeaaDoor
open Go.RowKit
attribute [local go_sem] setCell_drewN alloc_drewN
set_option linter.unusedVariables false
set_option linter.unusedSimpArgs false

/-- What a computation makes first: one block; and what it then comes to. -/
def newOf {α : Type} (P : Program) : Sem α → Option (Obj × (Nat → Sem α))
  | .new o k => some (o, k)
  | .program k => newOf P (k P)
  | .mark _ k => newOf P k
  | _ => none

theorem run_of_new {α : Type} {P : Program} {s : Sem α} {o : Obj} {k : Nat → Sem α} (h : newOf P s = some (o, k)) (w : World) : s.run P w = (k w.heap.size).run P (w.alloc o) := by
  induction s with
  | new o' k' ih => simp only [newOf, Option.some.injEq, Prod.mk.injEq] at h; obtain ⟨rfl, rfl⟩ := h; rfl
  | program k' ih => exact ih P h
  | mark m k' ih => exact ih h
  | _ => simp [newOf] at h

/-- The block and the value of an operation that makes one block, behind slots t. -/
def madeBy (P : Program) (t : Array Value) (o : Oper) : Option (Obj × (Nat → Option Next)) :=
  (newOf P (execOp (Act.eval { tmps := t, defers := [] }) o)).map fun x => (x.1, fun r => pureOf P (x.2 r))

theorem wp_region_made {P : Program} {Q : Exit → Act → World → Prop} {w : World} {id : Nat} (L : List Oper) (n : Nat) (t : Array Value) (ob : Obj) (v : Nat → Value) (d d2 N : Nat)
    (hr : (L.drop n).map (fun o => (o.dst, o.guard.isNone)) = [(some d, true), (some d2, true)])
    (h2 : (L.drop n).tail.map (·.op) = [.assign (.tmp d)])
    (h : (valsOf P (L.take n) t).map (fun t' => (t'.size, (L.drop n).head?.bind (madeBy P t'))) = some (N, some (ob, fun r => some (.value (v r)))))
    (hd : d < N) (hd2 : d2 < N)
    (hn : ∀ t'' : Array Value, t''.getD d2 undef = v w.heap.size → Q .normal { tmps := t'', defers := [] } (w.alloc ob)) : (Code.region id L.toArray false).wp P Q { tmps := t, defers := [] } w := by
  apply wp_region_lit
  cases hv : valsOf P (L.take n) t with
  | none => simp [hv] at h
  | some t' =>
    refine Eq.subst (motive := fun l => wpList P L.toArray Q l { tmps := t, defers := [] } w) (List.take_append_drop n L) ?_
    refine wpList_vals _ _ _ hv ?_
    rw [hv] at h
    generalize hl : L.drop n = l at *
    obtain ⟨o, o2, rfl⟩ : ∃ o o2, l = [o, o2] := by
      have hlen := congrArg List.length hr
      simp only [List.length_map, List.length_cons, List.length_nil] at hlen
      rcases l with _ | ⟨o, _ | ⟨o2, _ | ⟨o3, l⟩⟩⟩
      · simp at hlen
      · simp at hlen
      · exact ⟨o, o2, rfl⟩
      · simp at hlen
    simp only [List.map_cons, List.map_nil, List.cons.injEq, Prod.mk.injEq, and_true] at hr
    obtain ⟨⟨h3, h4⟩, h5, h6⟩ := hr
    simp only [List.tail_cons, List.map_cons, List.map_nil, List.cons.injEq, and_true] at h2
    simp only [Option.map_some, Option.some.injEq, Prod.mk.injEq, List.head?_cons, Option.bind_some] at h
    obtain ⟨h7, h8⟩ := h
    unfold madeBy at h8
    cases hm : newOf P (execOp (Act.eval { tmps := t', defers := [] }) o) with
    | none => simp [hm] at h8
    | some x =>
      obtain ⟨o', k'⟩ := x
      rw [hm] at h8
      simp only [Option.map_some, Option.some.injEq, Prod.mk.injEq] at h8
      obtain ⟨rfl, h9⟩ := h8
      have h10 : pureOf P (k' w.heap.size) = some (.value (v w.heap.size)) := congrFun h9 w.heap.size
      refine wpList_plain (by simpa using h4) fun K hK => ?_
      unfold Oper.wp
      rw [run_of_new hm w, run_of_pure h10, Oper.upon_value, h3]
      refine hK _ _ ?_
      refine wpList_plain (by simpa using h6) fun K2 hK2 => ?_
      unfold Oper.wp
      have h11 : (execOp (Act.eval (Act.put { tmps := t', defers := [] } (some d) (v w.heap.size))) o2).run P (w.alloc o') = .ok (.value (v w.heap.size)) (w.alloc o') := by
        simp [execOp, h2, Act.eval, Act.put, h7, hd, Array.getElem?_setIfInBounds]
      rw [h11, Oper.upon_value, h5]
      refine hK2 _ _ (wpList_nil ?_)
      refine hn _ ?_
      simp [Act.put, h7, hd2, Array.getElem?_setIfInBounds]

theorem run_assign_const {P : Program} {a : Act} {o : Oper} {v : Value} {w : World} (h : o.op = .assign (.const v)) : (execOp a.eval o).run P w = .ok (.value v) w := by simp [execOp, h, Act.eval]

/-- A row of the list, as values. -/
def Row.rv (r : Row) : List Value := [.string r.name, .int .i64 r.form, .int .i64 r.code, .int .i64 r.f3, .int .i64 r.f7]
def rflat : List Row → List Value
  | [] => []
  | r :: l => r.rv ++ rflat l
def rowsCells : Array Value := (rflat rows).toArray

theorem rflat_at (l : List Row) : ∀ (i : Nat) (h : i < l.length) (j : Nat), j < 5 → (rflat l)[5 * i + j]? = (l[i]).rv[j]? := by
  induction l with
  | nil => intro i h; simp at h
  | cons r l ih =>
    intro i h j hj
    cases i with
    | zero =>
      simp only [rflat, List.getElem_cons_zero]
      rw [List.getElem?_append_left (by simp [Row.rv]; omega)]
      simp
    | succ i =>
      simp only [rflat, List.getElem_cons_succ]
      rw [List.getElem?_append_right (by simp [Row.rv]; omega)]
      have := ih i (by simpa using h) j hj
      rw [← this]
      congr 1
      simp [Row.rv]; omega

set_option maxHeartbeats 1000000 in
set_option maxRecDepth 100000 in
theorem rows_any (w : World) :
    Calls Tryd.prog 99 #[] w fun e w' => e = .returned (.slice (some ⟨w.heap.size, 0, none⟩) 98 98) ∧ w.alloc (.cells rowsCells 99) = w' := by
  go_enter Tryd.func99, Tryd.ntmps99
  apply wp_seq_k; intro K1 hK1
  apply wp_region_lit
  refine wpList_plain rfl fun K hK => ?_
  unfold Oper.wp
  rw [run_assign_const (v := .slice none 0 0) rfl]
  rw [Oper.upon_value]
  refine hK _ _ (wpList_nil ?_)
  clear hK K
  refine hK1 _ _ ?_
  clear hK1 K1
  apply wp_seq_k; intro K2 hK2
  refine wp_region_made _ 98 _ (.cells rowsCells 99) (fun r => .slice (some ⟨r, 0, none⟩) 98 98) 99 0 100 (by kernel_rfl) (by kernel_rfl) (by kernel_rfl) (by decide) (by decide) ?_
  intro t'' ht
  refine hK2 _ _ ?_
  clear hK2 K2
  apply wp_ret
  exact bodyPost_ret (v := .slice (some ⟨w.heap.size, 0, none⟩) 98 98) (by rw [results_tmp rfl]; exact congrArg (fun v => Result.ok v _) ht) rfl ⟨rfl, rfl⟩

end Go.Proofs.YteidojpklpfdeaaDoor

/- The walks of vireoref03: Known, in, Rd, Rs1, Rs2, Imm, Of. -/
namespace Go.Proofs.YteidojpklpfdeaaDoor
open Go.RowKit
attribute [local go_sem] setCell_drewN alloc_drewN
set_option linter.unusedVariables false
set_option linter.unusedSimpArgs false

set_option maxHeartbeats 400000 in
theorem rknown_any (op : Int) (w : World) :
    Calls Tryd.prog 60 #[.int .i64 op] w fun e w' => e = .returned (.bool (known op)) ∧ w = w' := by
  by_cases h1 : 1 ≤ op
  · go_enter Tryd.func60, Tryd.ntmps60
    go_wp2
    go_ret
    exact ⟨ret_bool (by simp [known, h1]), rfl⟩
  · go_enter Tryd.func60, Tryd.ntmps60
    go_wp2
    go_ret
    exact ⟨ret_bool (by simp [known]; omega), rfl⟩

set_option maxHeartbeats 800000 in
theorem in_any (f : Int) (g n : Nat) (l : List Int) (w : World) (hn : l.length = n) (hn1 : n ≤ 16) (hc : ∀ j (h : j < l.length), w.cell? ⟨g, j, none⟩ = some (.int .i64 l[j])) :
    Calls Tryd.prog 65 #[.int .i64 f, .slice (some ⟨g, 0, none⟩) n n] w fun e w' => e = .returned (.bool (l.any (· == f))) ∧ w = w' := by
  go_enter Tryd.func65, Tryd.ntmps65
  go_wp2
  go_loop [5] (fun i => ∃ k : Nat, k ≤ n ∧ i = .int .i64 k ∧ ((l.take k).any (· == f)) = false) (fun i => n - (intOf i).toNat)
  case atStart => exact ⟨0, by omega, rfl, by simp⟩
  case round =>
    obtain ⟨k, hk, rfl, hno⟩ := hrel
    by_cases hlt : k < n
    · have hm : k < l.length := by omega
      have hcell := hc k hm
      have ht : l.take (k + 1) = l.take k ++ [l[k]] := by rw [List.take_succ_eq_append_getElem hm]
      have hmem : l[k] ∈ l := List.getElem_mem hm
      have HT := hid ht; clear ht
      have HM := hid hmem; clear hmem
      have HNO := hid hno; clear hno
      have HC := hid hc; clear hc
      have HN := hid hn; clear hn
      generalize hx : l[k] = x at *
      have HX := hid hx; clear hx
      cases hb : x == f with
      | true =>
        go_wp2
        go_ret
        refine ⟨ret_bool ?_, rfl⟩
        symm
        rw [List.any_eq_true]
        exact ⟨x, HM.out, hb⟩
      | false =>
        go_wp2
        refine ⟨⟨k + 1, by omega, by go_num, ?_⟩, by simp [intOf] <;> omega⟩
        rw [HT.out, List.any_append, HNO.out]
        simp [hb]
    · have e : k = n := by omega
      subst e
      have HC := hid hc; clear hc
      have HNO := hid hno; clear hno
      go_wp2
      go_ret
      refine ⟨ret_bool ?_, rfl⟩
      have := HNO.out
      rw [List.take_of_length_le (by omega)] at this
      exact this.symm

set_option maxHeartbeats 800000 in
theorem rd_any (f : Int) (w : World) : Calls Tryd.prog 62 #[.int .i64 f] w fun e w' => e = .returned (.bool (rd_ f)) ∧ w.alloc (.cells #[.int .i64 4, .int .i64 6, .int .i64 11, .int .i64 16] 3) = w' := by
  go_enter Tryd.func62, Tryd.ntmps62
  go_wp2_with fail
  refine (in_any f _ 4 [4, 6, 11, 16] _ rfl (by decide) (by intro j h; match j, h with | 0, _ => simp | 1, _ => simp | 2, _ => simp | 3, _ => simp | j + 4, h => simp at h; omega)).mono ?_
  rintro e w' ⟨rfl, rfl⟩
  go_wp2_with fail
  go_ret
  exact ⟨ret_bool (by simp [rd_]), rfl⟩

set_option maxHeartbeats 800000 in
theorem rs1_any (f : Int) (w : World) : Calls Tryd.prog 63 #[.int .i64 f] w fun e w' => e = .returned (.bool (rs1_ f)) ∧ w.alloc (.cells #[.int .i64 1, .int .i64 2, .int .i64 11, .int .i64 13] 3) = w' := by
  go_enter Tryd.func63, Tryd.ntmps63
  go_wp2_with fail
  refine (in_any f _ 4 [1, 2, 11, 13] _ rfl (by decide) (by intro j h; match j, h with | 0, _ => simp | 1, _ => simp | 2, _ => simp | 3, _ => simp | j + 4, h => simp at h; omega)).mono ?_
  rintro e w' ⟨rfl, rfl⟩
  go_wp2_with fail
  go_ret
  exact ⟨ret_bool (by simp [rs1_]), rfl⟩

set_option maxHeartbeats 800000 in
theorem rs2_any (f : Int) (w : World) : Calls Tryd.prog 64 #[.int .i64 f] w fun e w' => e = .returned (.bool (rs2_ f)) ∧ w.alloc (.cells #[.int .i64 4, .int .i64 6, .int .i64 9, .int .i64 15, .int .i64 16] 3) = w' := by
  go_enter Tryd.func64, Tryd.ntmps64
  go_wp2_with fail
  refine (in_any f _ 5 [4, 6, 9, 15, 16] _ rfl (by decide) (by intro j h; match j, h with | 0, _ => simp | 1, _ => simp | 2, _ => simp | 3, _ => simp | 4, _ => simp | j + 5, h => simp at h; omega)).mono ?_
  rintro e w' ⟨rfl, rfl⟩
  go_wp2_with fail
  go_ret
  exact ⟨ret_bool (by simp [rs2_]), rfl⟩

set_option maxHeartbeats 1600000 in
theorem immR_any (f : Int) (w : World) (hf : IsForm f) :
    Calls Tryd.prog 66 #[.int .i64 f] w fun e w' => e = .returned (.tuple #[.int .i64 (immR f).a, .int .i64 (immR f).b, .int .i64 (immR f).by_, .bool (immR f).ok]) ∧ w = w' := by
  rcases hf with rfl | rfl | rfl | rfl | rfl | rfl | rfl | rfl | rfl | rfl | rfl | rfl | rfl | rfl | rfl | rfl
  all_goals
    go_enter Tryd.func66, Tryd.ntmps66
    go_wp2
    exact bodyPost_ret (by simp [results, Tryd.results66, go_sem, immR]) rfl ⟨rfl, rfl⟩

theorem rrow_cell (w : World) (op : Nat) (h0 : 1 ≤ op) (h1 : op ≤ 98) (j : Nat) (hj : j < 5) (t : TypeId) :
    (w.alloc (.cells rowsCells t)).cell? ⟨w.heap.size, (op - 1) * 5 + j, none⟩ = (rowAt op).rv[j]? := by
  rw [World.cell?_alloc_new]
  unfold rowsCells
  have hl : op - 1 < rows.length := by show op - 1 < 98; omega
  have := rflat_at rows (op - 1) hl j hj
  rw [List.getElem?_toArray, Nat.mul_comm, this]
  have hrow : rowAt (op : Int) = rows[op - 1] := by
    unfold rowAt allRows
    rw [Int.toNat_natCast, List.getD_eq_getElem?_getD, List.getElem?_cons, if_neg (by omega), List.getElem?_eq_getElem hl, Option.getD_some]
  rw [hrow]

set_option maxHeartbeats 400000 in
set_option maxRecDepth 20000 in
theorem of_known (op : Int) (w : World) (h0 : 1 ≤ op) (h1 : op ≤ 98) :
    Calls Tryd.prog 61 #[.int .i64 op] w fun e w' => e = .returned (.agg #[.string (rowAt op).name, .int .i64 (rowAt op).form, .int .i64 (rowAt op).code, .int .i64 (rowAt op).f3, .int .i64 (rowAt op).f7]) ∧ (w.alloc (.cells #[.string (rowAt op).name, .int .i64 (rowAt op).form, .int .i64 (rowAt op).code, .int .i64 (rowAt op).f3, .int .i64 (rowAt op).f7] 99)).alloc (.cells rowsCells 99) = w' := by
  obtain ⟨op, rfl⟩ := Int.eq_ofNat_of_zero_le (show 0 ≤ op by omega)
  have hk : known op = true := by simp [known]; omega
  have hc := fun (W : World) (j : Nat) (hj : j < 5) => rrow_cell W op (by omega) (by omega) j hj 99
  generalize rowAt (op : Int) = r at *
  have HC := hid hc; clear hc
  go_enter Tryd.func61, Tryd.ntmps61
  go_wp2_with fail
  refine (rknown_any _ _).mono ?_
  rintro e w' ⟨rfl, rfl⟩
  go_wp2_with fail
  refine (rows_any _).mono ?_
  rintro e w' ⟨rfl, rfl⟩
  have hcs : ∀ j, j < 5 → ((w.alloc (Obj.cells #[.string ⟨#[]⟩, .int .i64 0, .int .i64 0, .int .i64 0, .int .i64 0] 99)).alloc (Obj.cells rowsCells 99)).cell? ⟨w.heap.size + 1, (op - 1) * 5 + j, none⟩ = r.rv[j]? := by
    intro j hj
    have := HC.out (w.alloc (Obj.cells #[.string ⟨#[]⟩, .int .i64 0, .int .i64 0, .int .i64 0, .int .i64 0] 99)) j hj
    simpa using this
  generalize hrc : rowsCells = rc at *
  have HRC := hid hrc; clear hrc
  have c0 := hcs 0 (by omega); have c1 := hcs 1 (by omega); have c2 := hcs 2 (by omega); have c3 := hcs 3 (by omega); have c4 := hcs 4 (by omega)
  clear hcs
  simp only [Row.rv, List.getElem?_cons_zero, List.getElem?_cons_succ, Nat.add_zero] at c0 c1 c2 c3 c4
  have e0 : ((op : Int) - 1).toNat = op - 1 := by omega
  go_wp2_with fail
  exact bodyPost_ret (by simp [results, Tryd.results61, go_sem]) rfl ⟨rfl, by rw [HRC.out]⟩

theorem of_unknown (op : Int) (w : World) (h : known op = false) :
    Calls Tryd.prog 61 #[.int .i64 op] w fun e w' => e = .returned (.agg #[.string ⟨#[]⟩, .int .i64 0, .int .i64 0, .int .i64 0, .int .i64 0]) ∧ w.alloc (.cells #[.string ⟨#[]⟩, .int .i64 0, .int .i64 0, .int .i64 0, .int .i64 0] 99) = w' := by
  go_enter Tryd.func61, Tryd.ntmps61
  go_wp2_with (first | (go_at_call 60; refine (rknown_any _ _).mono ?_; rintro e w' ⟨rfl, rfl⟩))
  exact bodyPost_ret (by simp [results, Tryd.results61, go_sem]) rfl ⟨rfl, rfl⟩

end Go.Proofs.YteidojpklpfdeaaDoor

/- The walks of vireoref03: Right, part, number, Word. -/
namespace Go.Proofs.YteidojpklpfdeaaDoor
open Go.RowKit
attribute [local go_sem] setCell_drewN alloc_drewN
set_option linter.unusedVariables false
set_option linter.unusedSimpArgs false

theorem in12 (f : Int) (g : Nat) (w : World) (c0 : w.cell? ⟨g, 0, none⟩ = some (.int .i64 12)) (c1 : w.cell? ⟨g, 1, none⟩ = some (.int .i64 13)) :
    Calls Tryd.prog 65 #[.int .i64 f, .slice (some ⟨g, 0, none⟩) 2 2] w fun e w' => e = .returned (.bool (sysF f)) ∧ w = w' :=
  in_any f g 2 [12, 13] w rfl (by decide) (by intro j h; match j, h with | 0, _ => exact c0 | 1, _ => exact c1 | j + 2, h => simp at h; omega)
theorem in14 (f : Int) (g : Nat) (w : World) (c0 : w.cell? ⟨g, 0, none⟩ = some (.int .i64 14)) (c1 : w.cell? ⟨g, 1, none⟩ = some (.int .i64 15)) :
    Calls Tryd.prog 65 #[.int .i64 f, .slice (some ⟨g, 0, none⟩) 2 2] w fun e w' => e = .returned (.bool (ordF f)) ∧ w = w' :=
  in_any f g 2 [14, 15] w rfl (by decide) (by intro j h; match j, h with | 0, _ => exact c0 | 1, _ => exact c1 | j + 2, h => simp at h; omega)

set_option maxHeartbeats 400000 in
theorem rright_unknown (x : Ins) (w : World) (h : known x.op = false) :
    Calls Tryd.prog 24 #[.agg #[.int .i64 x.op, .int .i64 x.rd, .int .i64 x.rs1, .int .i64 x.rs2, .int .i64 x.imm, .int .i64 x.csr, .bool x.aq, .bool x.rl]] w fun e w' => e = .returned (.bool false) ∧ Below w.heap.size w w' := by
  go_enter Tryd.func24, Tryd.ntmps24
  go_wp2_with (first | (go_at_call 60; refine (rknown_any _ _).mono ?_; rintro e w' ⟨rfl, rfl⟩))
  go_ret
  exact ⟨rfl, (Below.refl _ _).alloc (Nat.le_refl _) _⟩

theorem run_rrow0 (a b c d e : Value) (w : World) : (Instr.field 99 (.agg #[a, b, c, d, e]) 0).run Tryd.prog w = .ok a w := by kernel_rfl
theorem run_rrow1 (a b c d e : Value) (w : World) : (Instr.field 99 (.agg #[a, b, c, d, e]) 1).run Tryd.prog w = .ok b w := by kernel_rfl

set_option maxHeartbeats 4000000 in
set_option maxRecDepth 100000 in
theorem rright_known (x : Ins) (w : World) (h1 : 1 ≤ x.op) (h2 : x.op ≤ 98) :
    Calls Tryd.prog 24 #[.agg #[.int .i64 x.op, .int .i64 x.rd, .int .i64 x.rs1, .int .i64 x.rs2, .int .i64 x.imm, .int .i64 x.csr, .bool x.aq, .bool x.rl]] w fun e w' => e = .returned (.bool (rrightBy (rowAt x.op).form x)) ∧ Below w.heap.size w w' := by
  have hk : known x.op = true := by simp [known]; omega
  have HOF := hid (fun w => of_known x.op w h1 h2)
  have hfo := form_ok x.op h1 h2
  have HI := hid (fun w => immR_any (rowAt x.op).form w hfo)
  have hby := immR_by (rowAt x.op).form
  have HP := hid (show rrightBy (rowAt x.op).form x = (inRange x && (partA (rowAt x.op).form x.rd x.rs1 x.rs2 && (partB (rowAt x.op).form x.csr x.aq x.rl && partC (immR (rowAt x.op).form) x.imm))) from rfl)
  generalize rrightBy (rowAt x.op).form x = rr at *
  generalize immR (rowAt x.op).form = im at *
  generalize rowAt x.op = r at *
  clear hfo
  obtain ⟨ia, ib, iby, iok⟩ := im
  obtain ⟨nm, form, code, f3, f7⟩ := r
  obtain ⟨op, rd, rs1, rs2, imm, csr, aq, rl⟩ := x
  dsimp only at *
  have hb0 : (iby == 0) = false := by simp; omega
  by_cases hin : (0 ≤ rd ∧ rd ≤ 31) ∧ (0 ≤ rs1 ∧ rs1 ≤ 31) ∧ (0 ≤ rs2 ∧ rs2 ≤ 31) ∧ (0 ≤ csr ∧ csr ≤ 4095)
  · have hir : inRange ⟨op, rd, rs1, rs2, imm, csr, aq, rl⟩ = true := by simp [inRange]; omega
    have HR := hid (HP.out.trans (by rw [hir, Bool.true_and])); clear hir HP
    have hrf := run_rrow1
    obtain ⟨⟨g1, g2⟩, ⟨g3, g4⟩, ⟨g5, g6⟩, g7, g8⟩ := hin
    go_enter Tryd.func24, Tryd.ntmps24
    go_upto_region 6 with (first | (go_at_call 60; refine (rknown_any _ _).mono ?_; rintro e w' ⟨rfl, rfl⟩) | (go_at_call 61; refine (HOF.out _).mono ?_; rintro e w' ⟨rfl, rfl⟩) | (go_at_call 62; refine (rd_any _ _).mono ?_; rintro e w' ⟨rfl, rfl⟩) | (go_at_call 63; refine (rs1_any _ _).mono ?_; rintro e w' ⟨rfl, rfl⟩) | (go_at_call 64; refine (rs2_any _ _).mono ?_; rintro e w' ⟨rfl, rfl⟩) | (go_at_call 65; first | (refine (in12 _ _ _ ?_ ?_).mono ?_; (focus (simp [go_sem]; done)); (focus (simp [go_sem]; done)); rintro e w' ⟨rfl, rfl⟩) | (refine (in14 _ _ _ ?_ ?_).mono ?_; (focus (simp [go_sem]; done)); (focus (simp [go_sem]; done)); rintro e w' ⟨rfl, rfl⟩)) | (go_at_call 66; refine (HI.out _).mono ?_; rintro e w' ⟨rfl, rfl⟩))
    go_cut [0, 81] (fun _ s81 wx => s81 = .bool (!partA form rd rs1 rs2) ∧ wx.cell? ⟨w.heap.size, 4, none⟩ = some (.int .i64 imm) ∧ wx.cell? ⟨w.heap.size, 5, none⟩ = some (.int .i64 csr) ∧ wx.cell? ⟨w.heap.size, 6, none⟩ = some (.bool aq) ∧ wx.cell? ⟨w.heap.size, 7, none⟩ = some (.bool rl) ∧ Below w.heap.size w wx ∧ w.heap.size < wx.heap.size)
    case first =>
      go_wp2_with (first | (go_at_call 60; refine (rknown_any _ _).mono ?_; rintro e w' ⟨rfl, rfl⟩) | (go_at_call 61; refine (HOF.out _).mono ?_; rintro e w' ⟨rfl, rfl⟩) | (go_at_call 62; refine (rd_any _ _).mono ?_; rintro e w' ⟨rfl, rfl⟩) | (go_at_call 63; refine (rs1_any _ _).mono ?_; rintro e w' ⟨rfl, rfl⟩) | (go_at_call 64; refine (rs2_any _ _).mono ?_; rintro e w' ⟨rfl, rfl⟩) | (go_at_call 65; first | (refine (in12 _ _ _ ?_ ?_).mono ?_; (focus (simp [go_sem]; done)); (focus (simp [go_sem]; done)); rintro e w' ⟨rfl, rfl⟩) | (refine (in14 _ _ _ ?_ ?_).mono ?_; (focus (simp [go_sem]; done)); (focus (simp [go_sem]; done)); rintro e w' ⟨rfl, rfl⟩)) | (go_at_call 66; refine (HI.out _).mono ?_; rintro e w' ⟨rfl, rfl⟩))
      all_goals
        go_meet
        refine ⟨by simp [partA, bne, *], by simp [go_sem], by simp [go_sem], by simp [go_sem], by simp [go_sem], ?_, by simp; try omega⟩
        repeat (first | assumption | exact Below.refl _ _ | apply Below.drew | apply bel_drewN | refine Below.alloc ?_ (by first | omega | (simp; done) | (simp; omega)) _)
    case rest =>
      obtain ⟨rfl, c4, c5, c6, c7, hb1, hz1⟩ := hcut
      have HB1 := hid hb1; clear hb1
      cases hq1 : partA form rd rs1 rs2 with
      | false =>
        have HR2 := hid (HR.out.trans (by rw [hq1, Bool.false_and])); clear HR
        go_wp2
        go_ret
        exact ⟨ret_bool HR2.out.symm, HB1.out⟩
      | true =>
        have HR2 := hid (HR.out.trans (by rw [hq1, Bool.true_and])); clear HR
        go_upto_region 8 with (first | (go_at_call 60; refine (rknown_any _ _).mono ?_; rintro e w' ⟨rfl, rfl⟩) | (go_at_call 61; refine (HOF.out _).mono ?_; rintro e w' ⟨rfl, rfl⟩) | (go_at_call 62; refine (rd_any _ _).mono ?_; rintro e w' ⟨rfl, rfl⟩) | (go_at_call 63; refine (rs1_any _ _).mono ?_; rintro e w' ⟨rfl, rfl⟩) | (go_at_call 64; refine (rs2_any _ _).mono ?_; rintro e w' ⟨rfl, rfl⟩) | (go_at_call 65; first | (refine (in12 _ _ _ ?_ ?_).mono ?_; (focus (simp [go_sem]; done)); (focus (simp [go_sem]; done)); rintro e w' ⟨rfl, rfl⟩) | (refine (in14 _ _ _ ?_ ?_).mono ?_; (focus (simp [go_sem]; done)); (focus (simp [go_sem]; done)); rintro e w' ⟨rfl, rfl⟩)) | (go_at_call 66; refine (HI.out _).mono ?_; rintro e w' ⟨rfl, rfl⟩))
        go_cut [0, 104] (fun _ s104 wy => s104 = .bool (!partB form csr aq rl) ∧ wy.cell? ⟨w.heap.size, 4, none⟩ = some (.int .i64 imm) ∧ Below w.heap.size w wy ∧ w.heap.size < wy.heap.size)
        case first =>
          have hbb := HB1.out
          go_wp2_with (first | (go_at_call 60; refine (rknown_any _ _).mono ?_; rintro e w' ⟨rfl, rfl⟩) | (go_at_call 61; refine (HOF.out _).mono ?_; rintro e w' ⟨rfl, rfl⟩) | (go_at_call 62; refine (rd_any _ _).mono ?_; rintro e w' ⟨rfl, rfl⟩) | (go_at_call 63; refine (rs1_any _ _).mono ?_; rintro e w' ⟨rfl, rfl⟩) | (go_at_call 64; refine (rs2_any _ _).mono ?_; rintro e w' ⟨rfl, rfl⟩) | (go_at_call 65; first | (refine (in12 _ _ _ ?_ ?_).mono ?_; (focus (simp [go_sem]; done)); (focus (simp [go_sem]; done)); rintro e w' ⟨rfl, rfl⟩) | (refine (in14 _ _ _ ?_ ?_).mono ?_; (focus (simp [go_sem]; done)); (focus (simp [go_sem]; done)); rintro e w' ⟨rfl, rfl⟩)) | (go_at_call 66; refine (HI.out _).mono ?_; rintro e w' ⟨rfl, rfl⟩))
          all_goals
            go_meet
            refine ⟨by simp [partB, bne, *], by simp [go_sem, *], ?_, by simp; try omega⟩
            repeat (first | assumption | exact Below.refl _ _ | apply Below.drew | apply bel_drewN | refine Below.alloc ?_ (by first | omega | (simp; done) | (simp; omega)) _)
        case rest =>
          obtain ⟨rfl, d4, hb2, hz2⟩ := hcut
          have HB2 := hid hb2; clear hb2
          cases hq2 : partB form csr aq rl with
          | false =>
            have HR3 := hid (HR2.out.trans (by rw [hq2, Bool.false_and])); clear HR2
            go_wp2
            go_ret
            exact ⟨ret_bool HR3.out.symm, HB2.out⟩
          | true =>
            have HR3 := hid (HR2.out.trans (by rw [hq2, Bool.true_and])); clear HR2
            go_wp2_with (first | (go_at_call 60; refine (rknown_any _ _).mono ?_; rintro e w' ⟨rfl, rfl⟩) | (go_at_call 61; refine (HOF.out _).mono ?_; rintro e w' ⟨rfl, rfl⟩) | (go_at_call 62; refine (rd_any _ _).mono ?_; rintro e w' ⟨rfl, rfl⟩) | (go_at_call 63; refine (rs1_any _ _).mono ?_; rintro e w' ⟨rfl, rfl⟩) | (go_at_call 64; refine (rs2_any _ _).mono ?_; rintro e w' ⟨rfl, rfl⟩) | (go_at_call 65; first | (refine (in12 _ _ _ ?_ ?_).mono ?_; (focus (simp [go_sem]; done)); (focus (simp [go_sem]; done)); rintro e w' ⟨rfl, rfl⟩) | (refine (in14 _ _ _ ?_ ?_).mono ?_; (focus (simp [go_sem]; done)); (focus (simp [go_sem]; done)); rintro e w' ⟨rfl, rfl⟩)) | (go_at_call 66; refine (HI.out _).mono ?_; rintro e w' ⟨rfl, rfl⟩))
            all_goals
              go_ret
              exact ⟨ret_bool (by rw [HR3.out]; simp [partC, *] <;> omega), HB2.out⟩
  · have hir : inRange ⟨op, rd, rs1, rs2, imm, csr, aq, rl⟩ = false := by
      cases h : inRange ⟨op, rd, rs1, rs2, imm, csr, aq, rl⟩ with
      | false => rfl
      | true => exact absurd (by simp [inRange] at h; omega) hin
    have HR := hid (HP.out.trans (by rw [hir, Bool.false_and])); clear hir HP
    have hrf := run_rrow1
    go_enter Tryd.func24, Tryd.ntmps24
    go_upto_region 4 with (first | (go_at_call 60; refine (rknown_any _ _).mono ?_; rintro e w' ⟨rfl, rfl⟩) | (go_at_call 61; refine (HOF.out _).mono ?_; rintro e w' ⟨rfl, rfl⟩) | (go_at_call 62; refine (rd_any _ _).mono ?_; rintro e w' ⟨rfl, rfl⟩) | (go_at_call 63; refine (rs1_any _ _).mono ?_; rintro e w' ⟨rfl, rfl⟩) | (go_at_call 64; refine (rs2_any _ _).mono ?_; rintro e w' ⟨rfl, rfl⟩) | (go_at_call 65; first | (refine (in12 _ _ _ ?_ ?_).mono ?_; (focus (simp [go_sem]; done)); (focus (simp [go_sem]; done)); rintro e w' ⟨rfl, rfl⟩) | (refine (in14 _ _ _ ?_ ?_).mono ?_; (focus (simp [go_sem]; done)); (focus (simp [go_sem]; done)); rintro e w' ⟨rfl, rfl⟩)) | (go_at_call 66; refine (HI.out _).mono ?_; rintro e w' ⟨rfl, rfl⟩))
    go_cut [0, 53] (fun _ s53 wx => s53 = .bool true ∧ Below w.heap.size w wx)
    case first =>
      go_wp2_with (first | (go_at_call 60; refine (rknown_any _ _).mono ?_; rintro e w' ⟨rfl, rfl⟩) | (go_at_call 61; refine (HOF.out _).mono ?_; rintro e w' ⟨rfl, rfl⟩) | (go_at_call 62; refine (rd_any _ _).mono ?_; rintro e w' ⟨rfl, rfl⟩) | (go_at_call 63; refine (rs1_any _ _).mono ?_; rintro e w' ⟨rfl, rfl⟩) | (go_at_call 64; refine (rs2_any _ _).mono ?_; rintro e w' ⟨rfl, rfl⟩) | (go_at_call 65; first | (refine (in12 _ _ _ ?_ ?_).mono ?_; (focus (simp [go_sem]; done)); (focus (simp [go_sem]; done)); rintro e w' ⟨rfl, rfl⟩) | (refine (in14 _ _ _ ?_ ?_).mono ?_; (focus (simp [go_sem]; done)); (focus (simp [go_sem]; done)); rintro e w' ⟨rfl, rfl⟩)) | (go_at_call 66; refine (HI.out _).mono ?_; rintro e w' ⟨rfl, rfl⟩))
      all_goals
        go_meet
        refine ⟨by first | rfl | (simp; omega), ?_⟩
        repeat (first | assumption | exact Below.refl _ _ | apply Below.drew | apply bel_drewN | refine Below.alloc ?_ (by first | omega | (simp; done) | (simp; omega)) _)
    case rest =>
      obtain ⟨rfl, hb1⟩ := hcut
      go_wp2
      go_ret
      exact ⟨ret_bool HR.out.symm, hb1⟩

end Go.Proofs.YteidojpklpfdeaaDoor

/- vireoref03.Right of any instruction; the row of any operation. -/
namespace Go.Proofs.YteidojpklpfdeaaDoor
open Go.RowKit
attribute [local go_sem] setCell_drewN alloc_drewN
set_option linter.unusedVariables false
set_option linter.unusedSimpArgs false

theorem rright_all (x : Ins) (w : World) :
    Calls Tryd.prog 24 #[.agg #[.int .i64 x.op, .int .i64 x.rd, .int .i64 x.rs1, .int .i64 x.rs2, .int .i64 x.imm, .int .i64 x.csr, .bool x.aq, .bool x.rl]] w fun e w' => e = .returned (.bool (right x)) ∧ Below w.heap.size w w' := by
  rw [right_eq]
  cases hk : known x.op with
  | false =>
    have e : rright x = false := by simp [rright, hk]
    rw [e]
    exact rright_unknown x w hk
  | true =>
    have hb : 1 ≤ x.op ∧ x.op ≤ 98 := by simpa [known] using hk
    have e : rright x = rrightBy (rowAt x.op).form x := by simp [rright, hk]
    rw [e]
    exact rright_known x w hb.1 hb.2

theorem rof_all (op : Int) (w : World) :
    Calls Tryd.prog 61 #[.int .i64 op] w fun e w' => e = .returned (.agg #[.string (rowOf op).name, .int .i64 (rowOf op).form, .int .i64 (rowOf op).code, .int .i64 (rowOf op).f3, .int .i64 (rowOf op).f7]) ∧ Below w.heap.size w w' := by
  cases hk : known op with
  | false =>
    have e : rowOf op = row0 := by unfold rowOf; rw [hk]; rfl
    rw [e]
    exact (of_unknown op w hk).mono fun e w' ⟨h1, h2⟩ => ⟨h1, by rw [← h2]; exact (Below.refl _ _).alloc (Nat.le_refl _) _⟩
  | true =>
    have hb : 1 ≤ op ∧ op ≤ 98 := by simpa [known] using hk
    have e : rowOf op = rowAt op := by unfold rowOf; rw [hk]; rfl
    rw [e]
    exact (of_known op w hb.1 hb.2).mono fun e w' ⟨h1, h2⟩ => ⟨h1, by rw [← h2]; exact ((Below.refl _ _).alloc (Nat.le_refl _) _).alloc (by simp) _⟩

theorem rd_all (f : Int) (w : World) : Calls Tryd.prog 62 #[.int .i64 f] w fun e w' => e = .returned (.bool (rd_ f)) ∧ Below w.heap.size w w' :=
  (rd_any f w).mono fun e w' ⟨h1, h2⟩ => ⟨h1, by rw [← h2]; exact (Below.refl _ _).alloc (Nat.le_refl _) _⟩
theorem rs1_all (f : Int) (w : World) : Calls Tryd.prog 63 #[.int .i64 f] w fun e w' => e = .returned (.bool (rs1_ f)) ∧ Below w.heap.size w w' :=
  (rs1_any f w).mono fun e w' ⟨h1, h2⟩ => ⟨h1, by rw [← h2]; exact (Below.refl _ _).alloc (Nat.le_refl _) _⟩
theorem rs2_all (f : Int) (w : World) : Calls Tryd.prog 64 #[.int .i64 f] w fun e w' => e = .returned (.bool (rs2_ f)) ∧ Below w.heap.size w w' :=
  (rs2_any f w).mono fun e w' ⟨h1, h2⟩ => ⟨h1, by rw [← h2]; exact (Below.refl _ _).alloc (Nat.le_refl _) _⟩

/-- What a word is decoded as: an instruction and the error's number. -/
def decF (x : Int) : Ins × Int :=
  match (List.range 98).find? (fun j => hit x (rowAt ((j + 1 : Nat) : Int))) with
  | some j => (fieldsOf ((j + 1 : Nat) : Int) (rowAt ((j + 1 : Nat) : Int)).form x, 0)
  | none => (zeroIns, 31)

theorem decoded_decF (x : Int) (a : Ins) (c : Int) (h : Decoded x a c) : decF x = (a, c) := by
  unfold decF
  rcases h with ⟨k, k1, k2, hno, hh, rfl, rfl⟩ | ⟨hno, rfl, rfl⟩
  · have hf : (List.range 98).find? (fun j => hit x (rowAt ((j + 1 : Nat) : Int))) = some (k - 1) := by
      rw [List.find?_range_eq_some]
      refine ⟨?_, ?_, ?_⟩
      · rw [show k - 1 + 1 = k by omega]; exact hh
      · simp; omega
      · intro j hj
        have := hno (j + 1) (by omega) (by omega)
        simpa using this
    rw [hf]
    simp only [show k - 1 + 1 = k by omega]
  · have hf : (List.range 98).find? (fun j => hit x (rowAt ((j + 1 : Nat) : Int))) = none := by
      rw [List.find?_range_eq_none]
      intro j hj
      simpa using hno (j + 1) (by omega) (by omega)
    rw [hf]

theorem decF_any (x : Int) (w : World) (h0 : 0 ≤ x) (h1 : x < 4294967296) :
    Calls Tryd.prog 9 #[.int .u32 x] w fun e w' => e = .returned (.tuple #[(decF x).1.v, .int .i64 (decF x).2]) ∧ Below w.heap.size w w' :=
  (decode_any x w h0 h1).mono fun e w' ⟨a, c, hd, he, hb⟩ => by
    rw [decoded_decF x a c hd]
    exact ⟨he, hb⟩

end Go.Proofs.YteidojpklpfdeaaDoor
