/- The walk of asm.Parse's reader: parts: what an operation takes. -/
import Derived.Test.YteidojpklpfdeaaDoorMH
namespace Go.Proofs.YteidojpklpfdeaaDoor
open Go.RowKit
attribute [local go_sem] setCell_drewN alloc_drewN
set_option linter.unusedVariables false
set_option linter.unusedSimpArgs false

/-- All blocks but two are as they were. -/
structure Only2 (R X : Nat) (w w' : World) : Prop where
  os : w'.os = w.os
  tape : w'.tape = w.tape
  output : w'.output = w.output
  size : w.heap.size ≤ w'.heap.size
  block : ∀ k, k < w.heap.size → k ≠ R → k ≠ X → w'.heap[k]? = w.heap[k]?
theorem Only2.refl (R X : Nat) (w : World) : Only2 R X w w := ⟨rfl, rfl, rfl, Nat.le_refl _, fun _ _ _ _ => rfl⟩
theorem Only2.trans {R X : Nat} {a b c : World} (h : Only2 R X a b) (k : Only2 R X b c) : Only2 R X a c :=
  ⟨k.os.trans h.os, k.tape.trans h.tape, k.output.trans h.output, Nat.le_trans h.size k.size, fun i hi hn hm => (k.block i (Nat.lt_of_lt_of_le hi h.size) hn hm).trans (h.block i hi hn hm)⟩
theorem Only2.only {R X : Nat} {a b c : World} (h : Only2 R X a b) (k : Only R b c) : Only2 R X a c := h.trans ⟨k.os, k.tape, k.output, k.size, fun i hi hn _ => k.block i hi hn⟩
theorem Only2.below {R X : Nat} {a b c : World} (h : Only2 R X a b) (k : Below b.heap.size b c) : Only2 R X a c := h.only (Only.of_below k)
theorem Only2.setX {R X : Nat} {a b : World} (h : Only2 R X a b) (j : Nat) (u : Value) : Only2 R X a (b.setCell ⟨X, j, none⟩ u) :=
  h.trans ⟨rfl, rfl, rfl, by simp [World.setCell], fun k _ _ hk => Below.heap_setCell _ _ _ _ hk⟩
theorem Only2.setR {R X : Nat} {a b : World} (h : Only2 R X a b) (j : Nat) (u : Value) : Only2 R X a (b.setCell ⟨R, j, none⟩ u) :=
  h.only ((Only.refl _ _).setCell _ _)

/-- An instruction, as it lies in memory. -/
def XAt (w : World) (X : Nat) (x : Ins) : Prop := w.heap[X]? = some (.cells #[.int .i64 x.op, .int .i64 x.rd, .int .i64 x.rs1, .int .i64 x.rs2, .int .i64 x.imm, .int .i64 x.csr, .bool x.aq, .bool x.rl] 24 (0, 0))
theorem XAt.cell {w : World} {X : Nat} {x : Ins} (h : XAt w X x) (j : Nat) : w.cell? ⟨X, j, none⟩ = #[Value.int .i64 x.op, .int .i64 x.rd, .int .i64 x.rs1, .int .i64 x.rs2, .int .i64 x.imm, .int .i64 x.csr, .bool x.aq, .bool x.rl][j]? := by
  unfold XAt at h; simp [World.cell?, h]
theorem XAt.free {w : World} {X : Nat} {x : Ins} (h : XAt w X x) (j : Nat) : w.frozen? ⟨X, j, none⟩ = false := by
  unfold XAt at h; simp [World.frozen?, h]
theorem cells_set {w : World} {b : Nat} {cs : Array Value} {t : TypeId} (h : w.heap[b]? = some (.cells cs t (0, 0))) (j : Nat) (u : Value) : (w.setCell ⟨b, j, none⟩ u).heap[b]? = some (.cells (cs.setIfInBounds j u) t (0, 0)) := by
  have hlt := blk_lt h
  have h' : w.heap[b] = .cells cs t (0, 0) := by simpa [Array.getElem?_eq_getElem hlt] using h
  show (w.heap.modify b _)[b]? = _
  rw [Array.getElem?_eq_getElem (by simpa using hlt), Array.getElem_modify_self, h']
  rfl
theorem XAt.only {w w' : World} {R X : Nat} {x : Ins} (h : XAt w X x) (hn : X ≠ R) (ho : Only R w w') : XAt w' X x := (ho.block X (blk_lt h) hn).trans h
theorem XAt.below {w w' : World} {X : Nat} {x : Ins} (h : XAt w X x) (hb : Below w.heap.size w w') : XAt w' X x := (hb.block X (blk_lt h)).trans h
theorem RdAt.setX {w : World} {R X : Nat} {r : Rd} {x : Ins} (h : RdAt w R r) (hx : XAt w X x) (hn : X ≠ R) (j : Nat) (u : Value) : RdAt (w.setCell ⟨X, j, none⟩ u) R r := by
  obtain ⟨v, hh, ht⟩ := h
  refine ⟨v, (Below.heap_setCell _ _ _ _ (Ne.symm hn)).trans hh, ht.move fun k cs hk => Below.heap_setCell _ _ _ _ ?_⟩
  rintro rfl
  unfold XAt at hx
  rw [hx] at hk; cases hk
theorem RdAt.ne {w : World} {R X : Nat} {r : Rd} {x : Ins} (h : RdAt w R r) (hx : XAt w X x) : X ≠ R := by
  obtain ⟨v, hh, ht⟩ := h
  rintro rfl
  unfold XAt at hx
  rw [hx] at hh; cases hh
theorem XAt.set1 {w : World} {X : Nat} {x : Ins} (h : XAt w X x) (u : Int) : XAt (w.setCell ⟨X, 1, none⟩ (.int .i64 u)) X { x with rd := u } := cells_set h 1 _
theorem XAt.set2 {w : World} {X : Nat} {x : Ins} (h : XAt w X x) (u : Int) : XAt (w.setCell ⟨X, 2, none⟩ (.int .i64 u)) X { x with rs1 := u } := cells_set h 2 _
theorem XAt.set3 {w : World} {X : Nat} {x : Ins} (h : XAt w X x) (u : Int) : XAt (w.setCell ⟨X, 3, none⟩ (.int .i64 u)) X { x with rs2 := u } := cells_set h 3 _
theorem XAt.set4 {w : World} {X : Nat} {x : Ins} (h : XAt w X x) (u : Int) : XAt (w.setCell ⟨X, 4, none⟩ (.int .i64 u)) X { x with imm := u } := cells_set h 4 _
theorem XAt.set5 {w : World} {X : Nat} {x : Ins} (h : XAt w X x) (u : Int) : XAt (w.setCell ⟨X, 5, none⟩ (.int .i64 u)) X { x with csr := u } := cells_set h 5 _
theorem XAt.set6 {w : World} {X : Nat} {x : Ins} (h : XAt w X x) (u : Bool) : XAt (w.setCell ⟨X, 6, none⟩ (.bool u)) X { x with aq := u } := cells_set h 6 _
theorem XAt.set7 {w : World} {X : Nat} {x : Ins} (h : XAt w X x) (u : Bool) : XAt (w.setCell ⟨X, 7, none⟩ (.bool u)) X { x with rl := u } := cells_set h 7 _

/-- What an operation takes. -/
def partsR (x : Ins) (r : Rd) : Ins × Rd :=
  if (rowAt x.op).form = 1 then ({ x with rd := (regR r).1, imm := wrap64 ((numR (regR r).2).1 * 4096) }, ⟨(numR (regR r).2).2.list, (numR (regR r).2).2.bad || decide ((numR (regR r).2).1 < -524288) || decide (524288 ≤ (numR (regR r).2).1)⟩)
  else if (rowAt x.op).form = 2 then ({ x with rd := (regR r).1, imm := (numR (regR r).2).1 }, (numR (regR r).2).2)
  else if (rowAt x.op).form = 5 then ({ x with rd := (regR r).1, imm := (placeR false (regR r).2).1.1, rs1 := (placeR false (regR r).2).1.2 }, (placeR false (regR r).2).2)
  else if (rowAt x.op).form = 6 then ({ x with rs2 := (regR r).1, imm := (placeR false (regR r).2).1.1, rs1 := (placeR false (regR r).2).1.2 }, (placeR false (regR r).2).2)
  else if (rowAt x.op).form = 4 then ({ x with rs1 := (regR r).1, rs2 := (regR (regR r).2).1, imm := (numR (regR (regR r).2).2).1 }, (numR (regR (regR r).2).2).2)
  else if (rowAt x.op).form = 12 then ({ x with rd := (regR r).1, csr := (csrR (regR r).2).1, rs1 := (regR (csrR (regR r).2).2).1 }, (regR (csrR (regR r).2).2).2)
  else if (rowAt x.op).form = 13 then ({ x with rd := (regR r).1, csr := (csrR (regR r).2).1, imm := (numR (csrR (regR r).2).2).1 }, (numR (csrR (regR r).2).2).2)
  else if (rowAt x.op).form = 14 then ({ x with rd := (regR r).1, rs1 := (placeR true (regR r).2).1.2 }, (placeR true (regR r).2).2)
  else if (rowAt x.op).form = 15 then ({ x with rd := (regR r).1, rs2 := (regR (regR r).2).1, rs1 := (placeR true (regR (regR r).2).2).1.2 }, (placeR true (regR (regR r).2).2).2)
  else if (rowAt x.op).form = 16 then ({ x with rs1 := (regR r).1, rs2 := (regR (regR r).2).1 }, (regR (regR r).2).2)
  else if (rowAt x.op).form = 11 then (x, r)
  else if (rowAt x.op).form = 9 then ({ x with rd := (regR r).1, rs1 := (regR (regR r).2).1, rs2 := (regR (regR (regR r).2).2).1 }, (regR (regR (regR r).2).2).2)
  else ({ x with rd := (regR r).1, rs1 := (regR (regR r).2).1, imm := (numR (regR (regR r).2).2).1 }, (numR (regR (regR r).2).2).2)

def PartsPost (R X : Nat) (w : World) (y : Ins) (q : Rd) (e : Ending) (w' : World) : Prop := e = .returned (.tuple #[]) ∧ RdAt w' R q ∧ XAt w' X y ∧ Only2 R X w w'

theorem op_ne (op k : Int) (h : (rowAt k).form ≠ (rowAt op).form) : (op == k) = false := by
  rw [beq_eq_false_iff_ne]; rintro rfl; exact h rfl
theorem numbered_form (op : Int) (h0 : 1 ≤ op) (h1 : op ≤ 98) : numberedB op = ((rowAt op).form == 3 || (rowAt op).form == 7 || (rowAt op).form == 8 || (rowAt op).form == 10) := by
  have key : ∀ i : Fin 98, numberedB ((i.val + 1 : Nat) : Int) = ((rowAt ((i.val + 1 : Nat) : Int)).form == 3 || (rowAt ((i.val + 1 : Nat) : Int)).form == 7 || (rowAt ((i.val + 1 : Nat) : Int)).form == 8 || (rowAt ((i.val + 1 : Nat) : Int)).form == 10) := by decide +kernel
  have h := key ⟨(op - 1).toNat, by omega⟩
  have e : (((op - 1).toNat + 1 : Nat) : Int) = op := by omega
  simp only [e] at h
  exact h
theorem count_num (R : Nat) (r : Rd) (w1 : World) (h1 : RdAt w1 R (nextR r).2) (hl : (nextR r).1.length < 4294967281) :
    Calls Tryd.prog 88 #[.pointer (some ⟨R, 0, none⟩), .string ⟨(nextR r).1.toArray⟩] w1 (RdPost R w1 (.int .i64 (numR r).1) (numR r).2) := counted_any R _ _ w1 h1 (by omega)

set_option maxHeartbeats 8000000 in
set_option maxRecDepth 100000 in
theorem parts_f1 (R X : Nat) (x : Ins) (r : Rd) (w : World) (h1 : 1 ≤ x.op) (h2 : x.op ≤ 98) (hf : (rowAt x.op).form = 1) (hx : XAt w X x) (h : RdAt w R r) :
    Calls Tryd.prog 51 #[.pointer (some ⟨R, 0, none⟩), .pointer (some ⟨X, 0, none⟩)] w (PartsPost R X w (partsR x r).1 (partsR x r).2) := by
  have hk : known x.op = true := by simp [known]; omega
  have hn : X ≠ R := h.ne hx
  have hpr : partsR x r = ({ x with rd := (regR r).1, imm := wrap64 ((numR (regR r).2).1 * 4096) }, ⟨(numR (regR r).2).2.list, (numR (regR r).2).2.bad || decide ((numR (regR r).2).1 < -524288) || decide (524288 ≤ (numR (regR r).2).1)⟩) := by unfold partsR; simp [hf]
  rw [hpr]; clear hpr
  dsimp only
  have HA0 := hid (fun w1 h1 => reg_any' R (r) w1 h1)
  have HA1 := hid (fun w1 h1 => next_any R ((regR r).2) w1 h1)
  have HB1 := hid (fun w1 h1 hl => count_num R ((regR r).2) w1 h1 hl)
  have HL1 := hid (fun w1 (h1 : RdAt w1 R ((regR r).2)) => nextR_len ((regR r).2) (rdAt_len h1))
  generalize regR r = y0 at *
  generalize numR y0.2 = y1 at *
  generalize (nextR y0.2).1 = s1 at *
  generalize (nextR y0.2).2 = q1 at *
  have HX := hid hx; have HR := hid h; have HN := hid hn; clear hx h hn
  have c0 := HX.out.cell 0
  obtain ⟨op, rd, rs1, rs2, imm, csr, aq, rl⟩ := x
  dsimp only at *
  simp only [List.getElem?_toArray, List.getElem?_cons_zero] at c0
  have hop : op = 1 ∨ op = 2 := by
    have key : ∀ i : Fin 98, (rowAt ((i.val + 1 : Nat) : Int)).form = 1 → i.val + 1 = 1 ∨ i.val + 1 = 2 := by decide +kernel
    have h := key ⟨(op - 1).toNat, by omega⟩
    have e : (((op - 1).toNat + 1 : Nat) : Int) = op := by omega
    simp only [e] at h
    have := h hf
    omega
  clear hf hk h1 h2
  rcases hop with rfl | rfl
  all_goals
    have HO := hid (Only2.refl R X w)
    go_enter Tryd.func51, Tryd.ntmps51
    skip
    go_wp2_with fail
    clear c0
    refine (HA0.out _ HR.out).mono ?_
    rintro e w1 ⟨rfl, hr1, ho1⟩
    have HX_ := hid (HX.out.only HN.out ho1); have HR_ := hid hr1; have HO_ := hid (HO.out.only ho1); clear HX HR HO hr1 ho1; have HX := HX_; have HR := HR_; have HO := HO_; clear HX_ HR_ HO_
    have c1 := HX.out.cell 1
    have f1 := HX.out.free 1
    simp only [List.getElem?_toArray, List.getElem?_cons_zero, List.getElem?_cons_succ] at c1
    go_wp2_with fail
    have HR_ := hid (HR.out.setX HX.out HN.out 1 (.int .i64 (y0.1))); have HX_ := hid (HX.out.set1 (y0.1)); have HO_ := hid (HO.out.setX 1 (.int .i64 (y0.1))); clear HR HX HO; have HR := HR_; have HX := HX_; have HO := HO_; clear HR_ HX_ HO_
    dsimp only at HX
    skip
    refine (HA1.out _ HR.out).mono ?_
    have hl1 := HL1.out _ HR.out
    rintro e w2 ⟨rfl, hr1, ho1⟩
    have HX_ := hid (HX.out.only HN.out ho1); have HR_ := hid hr1; have HO_ := hid (HO.out.only ho1); have HLL1 := hid hl1; clear HX HR HO hr1 ho1 hl1; have HX := HX_; have HR := HR_; have HO := HO_; clear HX_ HR_ HO_
    go_wp2_with fail
    refine (HB1.out _ HR.out HLL1.out).mono ?_
    rintro e w3 ⟨rfl, hr1, ho1⟩
    have HX_ := hid (HX.out.only HN.out ho1); have HR_ := hid hr1; have HO_ := hid (HO.out.only ho1); clear HX HR HO hr1 ho1; have HX := HX_; have HR := HR_; have HO := HO_; clear HX_ HR_ HO_
    have c4 := HX.out.cell 4
    have f4 := HX.out.free 4
    simp only [List.getElem?_toArray, List.getElem?_cons_zero, List.getElem?_cons_succ] at c4
    obtain ⟨n, ql, qb⟩ := y1
    dsimp only at *
    have key : ∀ (x9 : Ins), XAt w3 X x9 → ∀ B : Bool, B = (qb || decide (n < -524288) || decide (524288 ≤ n)) → ∀ w9, w9 = (w3.setCell ⟨R, 1, none⟩ (.bool B)).setCell ⟨X, 4, none⟩ (.int .i64 (wrap64 (n * 4096))) → PartsPost R X w { x9 with imm := wrap64 (n * 4096) } ⟨ql, B⟩ (.returned (.tuple #[])) w9 := by
      rintro x9 hx9 B hB w9 rfl
      obtain ⟨v9, hh9, ht9⟩ := HR.out
      have hx2 := hx9.only HN.out ((Only.refl R w3).setCell 1 (.bool B))
      have hr2 : RdAt (w3.setCell ⟨R, 1, none⟩ (.bool B)) R ⟨ql, B⟩ := ⟨v9, two_set1 hh9, ht9.only hh9 ((Only.refl _ _).setCell _ _)⟩
      exact ⟨rfl, hr2.setX hx2 HN.out _ _, hx2.set4 _, (HO.out.setR _ _).setX _ _⟩
    have KEY := hid (key _ HX.out); clear key
    have HNX := hid (fun h : R = X => HN.out h.symm)
    have hne : ((⟨X, 4, none⟩ : Addr) = ⟨R, 1, none⟩) = False := by simp
    obtain ⟨v9, hh9, ht9⟩ := HR.out
    have d1 := two_cell1 hh9; have e1 := two_free hh9 1
    clear hh9 ht9
    cases qb
    · by_cases l1 : n < -524288
      · have l1b : decide (n < -524288) = true := by simpa using l1
        have KK := hid (KEY.out true (by simp [l1b])); clear KEY l1
        go_wp2_with fail
        go_end0
        exact KK.out _ rfl
      · have l1b : decide (n < -524288) = false := by simpa using l1
        by_cases l2 : 524288 ≤ n
        · have l2b : decide (524288 ≤ n) = true := by simpa using l2
          have KK := hid (KEY.out true (by simp [l2b])); clear KEY l1 l2
          go_wp2_with fail
          go_end0
          exact KK.out _ rfl
        · have l2b : decide (524288 ≤ n) = false := by simpa using l2
          have KK := hid (KEY.out false (by rw [l1b, l2b]; rfl)); clear KEY
          have hw := hid (show wrap64 (n * 4096) = n * 4096 by unfold wrap64; omega)
          rw [hw.out] at KK
          go_wp2_with fail
          go_end0
          rw [hw.out]
          exact KK.out _ rfl
    · have KK := hid (KEY.out true (by simp)); clear KEY
      go_wp2_with fail
      go_end0
      exact KK.out _ rfl

set_option maxHeartbeats 8000000 in
set_option maxRecDepth 100000 in
theorem parts_f2 (R X : Nat) (x : Ins) (r : Rd) (w : World) (h1 : 1 ≤ x.op) (h2 : x.op ≤ 98) (hf : (rowAt x.op).form = 2) (hx : XAt w X x) (h : RdAt w R r) :
    Calls Tryd.prog 51 #[.pointer (some ⟨R, 0, none⟩), .pointer (some ⟨X, 0, none⟩)] w (PartsPost R X w (partsR x r).1 (partsR x r).2) := by
  have hk : known x.op = true := by simp [known]; omega
  have hn : X ≠ R := h.ne hx
  have hpr : partsR x r = ({ x with rd := (regR r).1, imm := (numR (regR r).2).1 }, (numR (regR r).2).2) := by unfold partsR; simp [hf]
  rw [hpr]; clear hpr
  dsimp only
  have HA0 := hid (fun w1 h1 => reg_any' R (r) w1 h1)
  have HA1 := hid (fun w1 h1 => next_any R ((regR r).2) w1 h1)
  have HB1 := hid (fun w1 h1 hl => count_num R ((regR r).2) w1 h1 hl)
  have HL1 := hid (fun w1 (h1 : RdAt w1 R ((regR r).2)) => nextR_len ((regR r).2) (rdAt_len h1))
  generalize regR r = y0 at *
  generalize numR y0.2 = y1 at *
  generalize (nextR y0.2).1 = s1 at *
  generalize (nextR y0.2).2 = q1 at *
  have HX := hid hx; have HR := hid h; have HN := hid hn; clear hx h hn
  have c0 := HX.out.cell 0
  obtain ⟨op, rd, rs1, rs2, imm, csr, aq, rl⟩ := x
  dsimp only at *
  simp only [List.getElem?_toArray, List.getElem?_cons_zero] at c0
  have hop : op = 3 := by
    have key : ∀ i : Fin 98, (rowAt ((i.val + 1 : Nat) : Int)).form = 2 → i.val + 1 = 3 := by decide +kernel
    have h := key ⟨(op - 1).toNat, by omega⟩
    have e : (((op - 1).toNat + 1 : Nat) : Int) = op := by omega
    simp only [e] at h
    have := h hf
    omega
  clear hf hk h1 h2
  rcases hop with rfl
  all_goals
    have HO := hid (Only2.refl R X w)
    go_enter Tryd.func51, Tryd.ntmps51
    skip
    go_wp2_with fail
    clear c0
    refine (HA0.out _ HR.out).mono ?_
    rintro e w1 ⟨rfl, hr1, ho1⟩
    have HX_ := hid (HX.out.only HN.out ho1); have HR_ := hid hr1; have HO_ := hid (HO.out.only ho1); clear HX HR HO hr1 ho1; have HX := HX_; have HR := HR_; have HO := HO_; clear HX_ HR_ HO_
    have c1 := HX.out.cell 1
    have f1 := HX.out.free 1
    simp only [List.getElem?_toArray, List.getElem?_cons_zero, List.getElem?_cons_succ] at c1
    go_wp2_with fail
    have HR_ := hid (HR.out.setX HX.out HN.out 1 (.int .i64 (y0.1))); have HX_ := hid (HX.out.set1 (y0.1)); have HO_ := hid (HO.out.setX 1 (.int .i64 (y0.1))); clear HR HX HO; have HR := HR_; have HX := HX_; have HO := HO_; clear HR_ HX_ HO_
    dsimp only at HX
    skip
    refine (HA1.out _ HR.out).mono ?_
    have hl1 := HL1.out _ HR.out
    rintro e w2 ⟨rfl, hr1, ho1⟩
    have HX_ := hid (HX.out.only HN.out ho1); have HR_ := hid hr1; have HO_ := hid (HO.out.only ho1); have HLL1 := hid hl1; clear HX HR HO hr1 ho1 hl1; have HX := HX_; have HR := HR_; have HO := HO_; clear HX_ HR_ HO_
    go_wp2_with fail
    refine (HB1.out _ HR.out HLL1.out).mono ?_
    rintro e w3 ⟨rfl, hr1, ho1⟩
    have HX_ := hid (HX.out.only HN.out ho1); have HR_ := hid hr1; have HO_ := hid (HO.out.only ho1); clear HX HR HO hr1 ho1; have HX := HX_; have HR := HR_; have HO := HO_; clear HX_ HR_ HO_
    have c4 := HX.out.cell 4
    have f4 := HX.out.free 4
    simp only [List.getElem?_toArray, List.getElem?_cons_zero, List.getElem?_cons_succ] at c4
    go_wp2_with fail
    have HR_ := hid (HR.out.setX HX.out HN.out 4 (.int .i64 (y1.1))); have HX_ := hid (HX.out.set4 (y1.1)); have HO_ := hid (HO.out.setX 4 (.int .i64 (y1.1))); clear HR HX HO; have HR := HR_; have HX := HX_; have HO := HO_; clear HR_ HX_ HO_
    dsimp only at HX
    go_end0
    exact ⟨rfl, HR.out, HX.out, HO.out⟩

set_option maxHeartbeats 8000000 in
set_option maxRecDepth 100000 in
theorem parts_f5 (R X : Nat) (x : Ins) (r : Rd) (w : World) (h1 : 1 ≤ x.op) (h2 : x.op ≤ 98) (hf : (rowAt x.op).form = 5) (hx : XAt w X x) (h : RdAt w R r) :
    Calls Tryd.prog 51 #[.pointer (some ⟨R, 0, none⟩), .pointer (some ⟨X, 0, none⟩)] w (PartsPost R X w (partsR x r).1 (partsR x r).2) := by
  have hk : known x.op = true := by simp [known]; omega
  have hn : X ≠ R := h.ne hx
  have hpr : partsR x r = ({ x with rd := (regR r).1, imm := (placeR false (regR r).2).1.1, rs1 := (placeR false (regR r).2).1.2 }, (placeR false (regR r).2).2) := by unfold partsR; simp [hf]
  rw [hpr]; clear hpr
  dsimp only
  have HA0 := hid (fun w1 h1 => reg_any' R (r) w1 h1)
  have HA1 := hid (fun w1 h1 => place_any false R ((regR r).2) w1 h1)
  generalize regR r = y0 at *
  generalize placeR false y0.2 = y1 at *
  have HX := hid hx; have HR := hid h; have HN := hid hn; clear hx h hn
  have n1 := op_ne x.op 1 (by rw [hf]; decide)
  have n2 := op_ne x.op 2 (by rw [hf]; decide)
  have n3 := op_ne x.op 3 (by rw [hf]; decide)
  have n54 := op_ne x.op 54 (by rw [hf]; decide)
  have n55 := op_ne x.op 55 (by rw [hf]; decide)
  have n56 := op_ne x.op 56 (by rw [hf]; decide)
  have n73 := op_ne x.op 73 (by rw [hf]; decide)
  have n84 := op_ne x.op 84 (by rw [hf]; decide)
  have n98 := op_ne x.op 98 (by rw [hf]; decide)
  have n52 := op_ne x.op 52 (by rw [hf]; decide)
  have n53 := op_ne x.op 53 (by rw [hf]; decide)
  have n95 := op_ne x.op 95 (by rw [hf]; decide)
  have n96 := op_ne x.op 96 (by rw [hf]; decide)
  have n97 := op_ne x.op 97 (by rw [hf]; decide)
  have HLoads := hid (fun w => loads_any x.op w)
  rw [show loadsB x.op = true from by unfold loadsB; rw [hk]; simp [hf]] at HLoads
  have c0 := HX.out.cell 0
  obtain ⟨op, rd, rs1, rs2, imm, csr, aq, rl⟩ := x
  dsimp only at *
  simp only [List.getElem?_toArray, List.getElem?_cons_zero] at c0
  clear hf hk h1 h2
  have HO := hid (Only2.refl R X w)
  go_enter Tryd.func51, Tryd.ntmps51
  go_wp2_with fail
  refine (HLoads.out _).mono ?_
  rintro e w1 ⟨rfl, hb⟩
  have HX_ := hid (HX.out.below hb); have HR_ := hid (HR.out.below hb); have HO_ := hid (HO.out.below hb); clear HX HR HO c0 hb; have HX := HX_; have HR := HR_; have HO := HO_; clear HX_ HR_ HO_
  have c0 := HX.out.cell 0
  simp only [List.getElem?_toArray, List.getElem?_cons_zero] at c0
  skip
  go_wp2_with fail
  clear c0
  refine (HA0.out _ HR.out).mono ?_
  rintro e w2 ⟨rfl, hr1, ho1⟩
  have HX_ := hid (HX.out.only HN.out ho1); have HR_ := hid hr1; have HO_ := hid (HO.out.only ho1); clear HX HR HO hr1 ho1; have HX := HX_; have HR := HR_; have HO := HO_; clear HX_ HR_ HO_
  have c1 := HX.out.cell 1
  have f1 := HX.out.free 1
  simp only [List.getElem?_toArray, List.getElem?_cons_zero, List.getElem?_cons_succ] at c1
  go_wp2_with fail
  have HR_ := hid (HR.out.setX HX.out HN.out 1 (.int .i64 (y0.1))); have HX_ := hid (HX.out.set1 (y0.1)); have HO_ := hid (HO.out.setX 1 (.int .i64 (y0.1))); clear HR HX HO; have HR := HR_; have HX := HX_; have HO := HO_; clear HR_ HX_ HO_
  dsimp only at HX
  skip
  refine (HA1.out _ HR.out).mono ?_
  rintro e w3 ⟨rfl, hr1, ho1⟩
  have HX_ := hid (HX.out.only HN.out ho1); have HR_ := hid hr1; have HO_ := hid (HO.out.only ho1); clear HX HR HO hr1 ho1; have HX := HX_; have HR := HR_; have HO := HO_; clear HX_ HR_ HO_
  have c4 := HX.out.cell 4
  have f4 := HX.out.free 4
  simp only [List.getElem?_toArray, List.getElem?_cons_zero, List.getElem?_cons_succ] at c4
  have c2 := HX.out.cell 2
  have f2 := HX.out.free 2
  simp only [List.getElem?_toArray, List.getElem?_cons_zero, List.getElem?_cons_succ] at c2
  go_wp2_with fail
  have HR_ := hid (HR.out.setX HX.out HN.out 4 (.int .i64 (y1.1.1))); have HX_ := hid (HX.out.set4 (y1.1.1)); have HO_ := hid (HO.out.setX 4 (.int .i64 (y1.1.1))); clear HR HX HO; have HR := HR_; have HX := HX_; have HO := HO_; clear HR_ HX_ HO_
  have HR_ := hid (HR.out.setX HX.out HN.out 2 (.int .i64 (y1.1.2))); have HX_ := hid (HX.out.set2 (y1.1.2)); have HO_ := hid (HO.out.setX 2 (.int .i64 (y1.1.2))); clear HR HX HO; have HR := HR_; have HX := HX_; have HO := HO_; clear HR_ HX_ HO_
  dsimp only at HX
  go_end0
  exact ⟨rfl, HR.out, HX.out, HO.out⟩

set_option maxHeartbeats 8000000 in
set_option maxRecDepth 100000 in
theorem parts_f6 (R X : Nat) (x : Ins) (r : Rd) (w : World) (h1 : 1 ≤ x.op) (h2 : x.op ≤ 98) (hf : (rowAt x.op).form = 6) (hx : XAt w X x) (h : RdAt w R r) :
    Calls Tryd.prog 51 #[.pointer (some ⟨R, 0, none⟩), .pointer (some ⟨X, 0, none⟩)] w (PartsPost R X w (partsR x r).1 (partsR x r).2) := by
  have hk : known x.op = true := by simp [known]; omega
  have hn : X ≠ R := h.ne hx
  have hpr : partsR x r = ({ x with rs2 := (regR r).1, imm := (placeR false (regR r).2).1.1, rs1 := (placeR false (regR r).2).1.2 }, (placeR false (regR r).2).2) := by unfold partsR; simp [hf]
  rw [hpr]; clear hpr
  dsimp only
  have HA0 := hid (fun w1 h1 => reg_any' R (r) w1 h1)
  have HA1 := hid (fun w1 h1 => place_any false R ((regR r).2) w1 h1)
  generalize regR r = y0 at *
  generalize placeR false y0.2 = y1 at *
  have HX := hid hx; have HR := hid h; have HN := hid hn; clear hx h hn
  have n1 := op_ne x.op 1 (by rw [hf]; decide)
  have n2 := op_ne x.op 2 (by rw [hf]; decide)
  have n3 := op_ne x.op 3 (by rw [hf]; decide)
  have n54 := op_ne x.op 54 (by rw [hf]; decide)
  have n55 := op_ne x.op 55 (by rw [hf]; decide)
  have n56 := op_ne x.op 56 (by rw [hf]; decide)
  have n73 := op_ne x.op 73 (by rw [hf]; decide)
  have n84 := op_ne x.op 84 (by rw [hf]; decide)
  have n98 := op_ne x.op 98 (by rw [hf]; decide)
  have n52 := op_ne x.op 52 (by rw [hf]; decide)
  have n53 := op_ne x.op 53 (by rw [hf]; decide)
  have n95 := op_ne x.op 95 (by rw [hf]; decide)
  have n96 := op_ne x.op 96 (by rw [hf]; decide)
  have n97 := op_ne x.op 97 (by rw [hf]; decide)
  have HLoads := hid (fun w => loads_any x.op w)
  rw [show loadsB x.op = false from by unfold loadsB; rw [hk]; simp [hf]] at HLoads
  have HStores := hid (fun w => stores_any x.op w)
  rw [show storesB x.op = true from by unfold storesB; rw [hk]; simp [hf]] at HStores
  have c0 := HX.out.cell 0
  obtain ⟨op, rd, rs1, rs2, imm, csr, aq, rl⟩ := x
  dsimp only at *
  simp only [List.getElem?_toArray, List.getElem?_cons_zero] at c0
  clear hf hk h1 h2
  have HO := hid (Only2.refl R X w)
  go_enter Tryd.func51, Tryd.ntmps51
  go_wp2_with fail
  refine (HLoads.out _).mono ?_
  rintro e w1 ⟨rfl, hb⟩
  have HX_ := hid (HX.out.below hb); have HR_ := hid (HR.out.below hb); have HO_ := hid (HO.out.below hb); clear HX HR HO c0 hb; have HX := HX_; have HR := HR_; have HO := HO_; clear HX_ HR_ HO_
  have c0 := HX.out.cell 0
  simp only [List.getElem?_toArray, List.getElem?_cons_zero] at c0
  go_wp2_with fail
  refine (HStores.out _).mono ?_
  rintro e w2 ⟨rfl, hb⟩
  have HX_ := hid (HX.out.below hb); have HR_ := hid (HR.out.below hb); have HO_ := hid (HO.out.below hb); clear HX HR HO c0 hb; have HX := HX_; have HR := HR_; have HO := HO_; clear HX_ HR_ HO_
  have c0 := HX.out.cell 0
  simp only [List.getElem?_toArray, List.getElem?_cons_zero] at c0
  skip
  go_wp2_with fail
  clear c0
  refine (HA0.out _ HR.out).mono ?_
  rintro e w3 ⟨rfl, hr1, ho1⟩
  have HX_ := hid (HX.out.only HN.out ho1); have HR_ := hid hr1; have HO_ := hid (HO.out.only ho1); clear HX HR HO hr1 ho1; have HX := HX_; have HR := HR_; have HO := HO_; clear HX_ HR_ HO_
  have c3 := HX.out.cell 3
  have f3 := HX.out.free 3
  simp only [List.getElem?_toArray, List.getElem?_cons_zero, List.getElem?_cons_succ] at c3
  go_wp2_with fail
  have HR_ := hid (HR.out.setX HX.out HN.out 3 (.int .i64 (y0.1))); have HX_ := hid (HX.out.set3 (y0.1)); have HO_ := hid (HO.out.setX 3 (.int .i64 (y0.1))); clear HR HX HO; have HR := HR_; have HX := HX_; have HO := HO_; clear HR_ HX_ HO_
  dsimp only at HX
  skip
  refine (HA1.out _ HR.out).mono ?_
  rintro e w4 ⟨rfl, hr1, ho1⟩
  have HX_ := hid (HX.out.only HN.out ho1); have HR_ := hid hr1; have HO_ := hid (HO.out.only ho1); clear HX HR HO hr1 ho1; have HX := HX_; have HR := HR_; have HO := HO_; clear HX_ HR_ HO_
  have c4 := HX.out.cell 4
  have f4 := HX.out.free 4
  simp only [List.getElem?_toArray, List.getElem?_cons_zero, List.getElem?_cons_succ] at c4
  have c2 := HX.out.cell 2
  have f2 := HX.out.free 2
  simp only [List.getElem?_toArray, List.getElem?_cons_zero, List.getElem?_cons_succ] at c2
  go_wp2_with fail
  have HR_ := hid (HR.out.setX HX.out HN.out 4 (.int .i64 (y1.1.1))); have HX_ := hid (HX.out.set4 (y1.1.1)); have HO_ := hid (HO.out.setX 4 (.int .i64 (y1.1.1))); clear HR HX HO; have HR := HR_; have HX := HX_; have HO := HO_; clear HR_ HX_ HO_
  have HR_ := hid (HR.out.setX HX.out HN.out 2 (.int .i64 (y1.1.2))); have HX_ := hid (HX.out.set2 (y1.1.2)); have HO_ := hid (HO.out.setX 2 (.int .i64 (y1.1.2))); clear HR HX HO; have HR := HR_; have HX := HX_; have HO := HO_; clear HR_ HX_ HO_
  dsimp only at HX
  go_end0
  exact ⟨rfl, HR.out, HX.out, HO.out⟩

set_option maxHeartbeats 8000000 in
set_option maxRecDepth 100000 in
theorem parts_f4 (R X : Nat) (x : Ins) (r : Rd) (w : World) (h1 : 1 ≤ x.op) (h2 : x.op ≤ 98) (hf : (rowAt x.op).form = 4) (hx : XAt w X x) (h : RdAt w R r) :
    Calls Tryd.prog 51 #[.pointer (some ⟨R, 0, none⟩), .pointer (some ⟨X, 0, none⟩)] w (PartsPost R X w (partsR x r).1 (partsR x r).2) := by
  have hk : known x.op = true := by simp [known]; omega
  have hn : X ≠ R := h.ne hx
  have hpr : partsR x r = ({ x with rs1 := (regR r).1, rs2 := (regR (regR r).2).1, imm := (numR (regR (regR r).2).2).1 }, (numR (regR (regR r).2).2).2) := by unfold partsR; simp [hf]
  rw [hpr]; clear hpr
  dsimp only
  have HA0 := hid (fun w1 h1 => reg_any' R (r) w1 h1)
  have HA1 := hid (fun w1 h1 => reg_any' R ((regR r).2) w1 h1)
  have HA2 := hid (fun w1 h1 => next_any R ((regR (regR r).2).2) w1 h1)
  have HB2 := hid (fun w1 h1 hl => count_num R ((regR (regR r).2).2) w1 h1 hl)
  have HL2 := hid (fun w1 (h1 : RdAt w1 R ((regR (regR r).2).2)) => nextR_len ((regR (regR r).2).2) (rdAt_len h1))
  generalize regR r = y0 at *
  generalize regR y0.2 = y1 at *
  generalize numR y1.2 = y2 at *
  generalize (nextR y1.2).1 = s2 at *
  generalize (nextR y1.2).2 = q2 at *
  have HX := hid hx; have HR := hid h; have HN := hid hn; clear hx h hn
  have n1 := op_ne x.op 1 (by rw [hf]; decide)
  have n2 := op_ne x.op 2 (by rw [hf]; decide)
  have n3 := op_ne x.op 3 (by rw [hf]; decide)
  have n54 := op_ne x.op 54 (by rw [hf]; decide)
  have n55 := op_ne x.op 55 (by rw [hf]; decide)
  have n56 := op_ne x.op 56 (by rw [hf]; decide)
  have n73 := op_ne x.op 73 (by rw [hf]; decide)
  have n84 := op_ne x.op 84 (by rw [hf]; decide)
  have n98 := op_ne x.op 98 (by rw [hf]; decide)
  have n52 := op_ne x.op 52 (by rw [hf]; decide)
  have n53 := op_ne x.op 53 (by rw [hf]; decide)
  have n95 := op_ne x.op 95 (by rw [hf]; decide)
  have n96 := op_ne x.op 96 (by rw [hf]; decide)
  have n97 := op_ne x.op 97 (by rw [hf]; decide)
  have HLoads := hid (fun w => loads_any x.op w)
  rw [show loadsB x.op = false from by unfold loadsB; rw [hk]; simp [hf]] at HLoads
  have HStores := hid (fun w => stores_any x.op w)
  rw [show storesB x.op = false from by unfold storesB; rw [hk]; simp [hf]] at HStores
  have HBranches := hid (fun w => branches_any x.op w)
  rw [show branchesB x.op = true from by unfold branchesB; rw [hk]; simp [hf]] at HBranches
  have c0 := HX.out.cell 0
  obtain ⟨op, rd, rs1, rs2, imm, csr, aq, rl⟩ := x
  dsimp only at *
  simp only [List.getElem?_toArray, List.getElem?_cons_zero] at c0
  clear hf hk h1 h2
  have HO := hid (Only2.refl R X w)
  go_enter Tryd.func51, Tryd.ntmps51
  go_wp2_with fail
  refine (HLoads.out _).mono ?_
  rintro e w1 ⟨rfl, hb⟩
  have HX_ := hid (HX.out.below hb); have HR_ := hid (HR.out.below hb); have HO_ := hid (HO.out.below hb); clear HX HR HO c0 hb; have HX := HX_; have HR := HR_; have HO := HO_; clear HX_ HR_ HO_
  have c0 := HX.out.cell 0
  simp only [List.getElem?_toArray, List.getElem?_cons_zero] at c0
  go_wp2_with fail
  refine (HStores.out _).mono ?_
  rintro e w2 ⟨rfl, hb⟩
  have HX_ := hid (HX.out.below hb); have HR_ := hid (HR.out.below hb); have HO_ := hid (HO.out.below hb); clear HX HR HO c0 hb; have HX := HX_; have HR := HR_; have HO := HO_; clear HX_ HR_ HO_
  have c0 := HX.out.cell 0
  simp only [List.getElem?_toArray, List.getElem?_cons_zero] at c0
  go_wp2_with fail
  refine (HBranches.out _).mono ?_
  rintro e w3 ⟨rfl, hb⟩
  have HX_ := hid (HX.out.below hb); have HR_ := hid (HR.out.below hb); have HO_ := hid (HO.out.below hb); clear HX HR HO c0 hb; have HX := HX_; have HR := HR_; have HO := HO_; clear HX_ HR_ HO_
  have c0 := HX.out.cell 0
  simp only [List.getElem?_toArray, List.getElem?_cons_zero] at c0
  skip
  go_wp2_with fail
  clear c0
  refine (HA0.out _ HR.out).mono ?_
  rintro e w4 ⟨rfl, hr1, ho1⟩
  have HX_ := hid (HX.out.only HN.out ho1); have HR_ := hid hr1; have HO_ := hid (HO.out.only ho1); clear HX HR HO hr1 ho1; have HX := HX_; have HR := HR_; have HO := HO_; clear HX_ HR_ HO_
  go_wp2_with fail
  skip
  refine (HA1.out _ HR.out).mono ?_
  rintro e w5 ⟨rfl, hr1, ho1⟩
  have HX_ := hid (HX.out.only HN.out ho1); have HR_ := hid hr1; have HO_ := hid (HO.out.only ho1); clear HX HR HO hr1 ho1; have HX := HX_; have HR := HR_; have HO := HO_; clear HX_ HR_ HO_
  have c2 := HX.out.cell 2
  have f2 := HX.out.free 2
  simp only [List.getElem?_toArray, List.getElem?_cons_zero, List.getElem?_cons_succ] at c2
  have c3 := HX.out.cell 3
  have f3 := HX.out.free 3
  simp only [List.getElem?_toArray, List.getElem?_cons_zero, List.getElem?_cons_succ] at c3
  go_wp2_with fail
  have HR_ := hid (HR.out.setX HX.out HN.out 2 (.int .i64 (y0.1))); have HX_ := hid (HX.out.set2 (y0.1)); have HO_ := hid (HO.out.setX 2 (.int .i64 (y0.1))); clear HR HX HO; have HR := HR_; have HX := HX_; have HO := HO_; clear HR_ HX_ HO_
  have HR_ := hid (HR.out.setX HX.out HN.out 3 (.int .i64 (y1.1))); have HX_ := hid (HX.out.set3 (y1.1)); have HO_ := hid (HO.out.setX 3 (.int .i64 (y1.1))); clear HR HX HO; have HR := HR_; have HX := HX_; have HO := HO_; clear HR_ HX_ HO_
  dsimp only at HX
  skip
  refine (HA2.out _ HR.out).mono ?_
  have hl2 := HL2.out _ HR.out
  rintro e w6 ⟨rfl, hr1, ho1⟩
  have HX_ := hid (HX.out.only HN.out ho1); have HR_ := hid hr1; have HO_ := hid (HO.out.only ho1); have HLL2 := hid hl2; clear HX HR HO hr1 ho1 hl2; have HX := HX_; have HR := HR_; have HO := HO_; clear HX_ HR_ HO_
  go_wp2_with fail
  refine (HB2.out _ HR.out HLL2.out).mono ?_
  rintro e w7 ⟨rfl, hr1, ho1⟩
  have HX_ := hid (HX.out.only HN.out ho1); have HR_ := hid hr1; have HO_ := hid (HO.out.only ho1); clear HX HR HO hr1 ho1; have HX := HX_; have HR := HR_; have HO := HO_; clear HX_ HR_ HO_
  have c4 := HX.out.cell 4
  have f4 := HX.out.free 4
  simp only [List.getElem?_toArray, List.getElem?_cons_zero, List.getElem?_cons_succ] at c4
  go_wp2_with fail
  have HR_ := hid (HR.out.setX HX.out HN.out 4 (.int .i64 (y2.1))); have HX_ := hid (HX.out.set4 (y2.1)); have HO_ := hid (HO.out.setX 4 (.int .i64 (y2.1))); clear HR HX HO; have HR := HR_; have HX := HX_; have HO := HO_; clear HR_ HX_ HO_
  dsimp only at HX
  go_end0
  exact ⟨rfl, HR.out, HX.out, HO.out⟩

set_option maxHeartbeats 8000000 in
set_option maxRecDepth 100000 in
theorem parts_f12 (R X : Nat) (x : Ins) (r : Rd) (w : World) (h1 : 1 ≤ x.op) (h2 : x.op ≤ 98) (hf : (rowAt x.op).form = 12) (hx : XAt w X x) (h : RdAt w R r) :
    Calls Tryd.prog 51 #[.pointer (some ⟨R, 0, none⟩), .pointer (some ⟨X, 0, none⟩)] w (PartsPost R X w (partsR x r).1 (partsR x r).2) := by
  have hk : known x.op = true := by simp [known]; omega
  have hn : X ≠ R := h.ne hx
  have hpr : partsR x r = ({ x with rd := (regR r).1, csr := (csrR (regR r).2).1, rs1 := (regR (csrR (regR r).2).2).1 }, (regR (csrR (regR r).2).2).2) := by unfold partsR; simp [hf]
  rw [hpr]; clear hpr
  dsimp only
  have HA0 := hid (fun w1 h1 => reg_any' R (r) w1 h1)
  have HA1 := hid (fun w1 h1 => csr_any' R ((regR r).2) w1 h1)
  have HA2 := hid (fun w1 h1 => reg_any' R ((csrR (regR r).2).2) w1 h1)
  generalize regR r = y0 at *
  generalize csrR y0.2 = y1 at *
  generalize regR y1.2 = y2 at *
  have HX := hid hx; have HR := hid h; have HN := hid hn; clear hx h hn
  have HLoads := hid (fun w => loads_any x.op w)
  rw [show loadsB x.op = false from by unfold loadsB; rw [hk]; simp [hf]] at HLoads
  have HStores := hid (fun w => stores_any x.op w)
  rw [show storesB x.op = false from by unfold storesB; rw [hk]; simp [hf]] at HStores
  have HBranches := hid (fun w => branches_any x.op w)
  rw [show branchesB x.op = false from by unfold branchesB; rw [hk]; simp [hf]] at HBranches
  have c0 := HX.out.cell 0
  obtain ⟨op, rd, rs1, rs2, imm, csr, aq, rl⟩ := x
  dsimp only at *
  simp only [List.getElem?_toArray, List.getElem?_cons_zero] at c0
  have hop : op = 54 ∨ op = 55 ∨ op = 56 := by
    have key : ∀ i : Fin 98, (rowAt ((i.val + 1 : Nat) : Int)).form = 12 → i.val + 1 = 54 ∨ i.val + 1 = 55 ∨ i.val + 1 = 56 := by decide +kernel
    have h := key ⟨(op - 1).toNat, by omega⟩
    have e : (((op - 1).toNat + 1 : Nat) : Int) = op := by omega
    simp only [e] at h
    have := h hf
    omega
  clear hf hk h1 h2
  rcases hop with rfl | rfl | rfl
  all_goals
    have HO := hid (Only2.refl R X w)
    go_enter Tryd.func51, Tryd.ntmps51
    go_wp2_with fail
    refine (HLoads.out _).mono ?_
    rintro e w1 ⟨rfl, hb⟩
    have HX_ := hid (HX.out.below hb); have HR_ := hid (HR.out.below hb); have HO_ := hid (HO.out.below hb); clear HX HR HO c0 hb; have HX := HX_; have HR := HR_; have HO := HO_; clear HX_ HR_ HO_
    have c0 := HX.out.cell 0
    simp only [List.getElem?_toArray, List.getElem?_cons_zero] at c0
    go_wp2_with fail
    refine (HStores.out _).mono ?_
    rintro e w2 ⟨rfl, hb⟩
    have HX_ := hid (HX.out.below hb); have HR_ := hid (HR.out.below hb); have HO_ := hid (HO.out.below hb); clear HX HR HO c0 hb; have HX := HX_; have HR := HR_; have HO := HO_; clear HX_ HR_ HO_
    have c0 := HX.out.cell 0
    simp only [List.getElem?_toArray, List.getElem?_cons_zero] at c0
    go_wp2_with fail
    refine (HBranches.out _).mono ?_
    rintro e w3 ⟨rfl, hb⟩
    have HX_ := hid (HX.out.below hb); have HR_ := hid (HR.out.below hb); have HO_ := hid (HO.out.below hb); clear HX HR HO c0 hb; have HX := HX_; have HR := HR_; have HO := HO_; clear HX_ HR_ HO_
    have c0 := HX.out.cell 0
    simp only [List.getElem?_toArray, List.getElem?_cons_zero] at c0
    skip
    go_wp2_with fail
    clear c0
    refine (HA0.out _ HR.out).mono ?_
    rintro e w4 ⟨rfl, hr1, ho1⟩
    have HX_ := hid (HX.out.only HN.out ho1); have HR_ := hid hr1; have HO_ := hid (HO.out.only ho1); clear HX HR HO hr1 ho1; have HX := HX_; have HR := HR_; have HO := HO_; clear HX_ HR_ HO_
    go_wp2_with fail
    skip
    refine (HA1.out _ HR.out).mono ?_
    rintro e w5 ⟨rfl, hr1, ho1⟩
    have HX_ := hid (HX.out.only HN.out ho1); have HR_ := hid hr1; have HO_ := hid (HO.out.only ho1); clear HX HR HO hr1 ho1; have HX := HX_; have HR := HR_; have HO := HO_; clear HX_ HR_ HO_
    have c1 := HX.out.cell 1
    have f1 := HX.out.free 1
    simp only [List.getElem?_toArray, List.getElem?_cons_zero, List.getElem?_cons_succ] at c1
    have c5 := HX.out.cell 5
    have f5 := HX.out.free 5
    simp only [List.getElem?_toArray, List.getElem?_cons_zero, List.getElem?_cons_succ] at c5
    go_wp2_with fail
    have HR_ := hid (HR.out.setX HX.out HN.out 1 (.int .i64 (y0.1))); have HX_ := hid (HX.out.set1 (y0.1)); have HO_ := hid (HO.out.setX 1 (.int .i64 (y0.1))); clear HR HX HO; have HR := HR_; have HX := HX_; have HO := HO_; clear HR_ HX_ HO_
    have HR_ := hid (HR.out.setX HX.out HN.out 5 (.int .i64 (y1.1))); have HX_ := hid (HX.out.set5 (y1.1)); have HO_ := hid (HO.out.setX 5 (.int .i64 (y1.1))); clear HR HX HO; have HR := HR_; have HX := HX_; have HO := HO_; clear HR_ HX_ HO_
    dsimp only at HX
    skip
    refine (HA2.out _ HR.out).mono ?_
    rintro e w6 ⟨rfl, hr1, ho1⟩
    have HX_ := hid (HX.out.only HN.out ho1); have HR_ := hid hr1; have HO_ := hid (HO.out.only ho1); clear HX HR HO hr1 ho1; have HX := HX_; have HR := HR_; have HO := HO_; clear HX_ HR_ HO_
    have c2 := HX.out.cell 2
    have f2 := HX.out.free 2
    simp only [List.getElem?_toArray, List.getElem?_cons_zero, List.getElem?_cons_succ] at c2
    go_wp2_with fail
    have HR_ := hid (HR.out.setX HX.out HN.out 2 (.int .i64 (y2.1))); have HX_ := hid (HX.out.set2 (y2.1)); have HO_ := hid (HO.out.setX 2 (.int .i64 (y2.1))); clear HR HX HO; have HR := HR_; have HX := HX_; have HO := HO_; clear HR_ HX_ HO_
    dsimp only at HX
    go_end0
    exact ⟨rfl, HR.out, HX.out, HO.out⟩

set_option maxHeartbeats 8000000 in
set_option maxRecDepth 100000 in
theorem parts_f13 (R X : Nat) (x : Ins) (r : Rd) (w : World) (h1 : 1 ≤ x.op) (h2 : x.op ≤ 98) (hf : (rowAt x.op).form = 13) (hx : XAt w X x) (h : RdAt w R r) :
    Calls Tryd.prog 51 #[.pointer (some ⟨R, 0, none⟩), .pointer (some ⟨X, 0, none⟩)] w (PartsPost R X w (partsR x r).1 (partsR x r).2) := by
  have hk : known x.op = true := by simp [known]; omega
  have hn : X ≠ R := h.ne hx
  have hpr : partsR x r = ({ x with rd := (regR r).1, csr := (csrR (regR r).2).1, imm := (numR (csrR (regR r).2).2).1 }, (numR (csrR (regR r).2).2).2) := by unfold partsR; simp [hf]
  rw [hpr]; clear hpr
  dsimp only
  have HA0 := hid (fun w1 h1 => reg_any' R (r) w1 h1)
  have HA1 := hid (fun w1 h1 => csr_any' R ((regR r).2) w1 h1)
  have HA2 := hid (fun w1 h1 => next_any R ((csrR (regR r).2).2) w1 h1)
  have HB2 := hid (fun w1 h1 hl => count_num R ((csrR (regR r).2).2) w1 h1 hl)
  have HL2 := hid (fun w1 (h1 : RdAt w1 R ((csrR (regR r).2).2)) => nextR_len ((csrR (regR r).2).2) (rdAt_len h1))
  generalize regR r = y0 at *
  generalize csrR y0.2 = y1 at *
  generalize numR y1.2 = y2 at *
  generalize (nextR y1.2).1 = s2 at *
  generalize (nextR y1.2).2 = q2 at *
  have HX := hid hx; have HR := hid h; have HN := hid hn; clear hx h hn
  have n1 := op_ne x.op 1 (by rw [hf]; decide)
  have n2 := op_ne x.op 2 (by rw [hf]; decide)
  have n3 := op_ne x.op 3 (by rw [hf]; decide)
  have n54 := op_ne x.op 54 (by rw [hf]; decide)
  have n55 := op_ne x.op 55 (by rw [hf]; decide)
  have n56 := op_ne x.op 56 (by rw [hf]; decide)
  have n73 := op_ne x.op 73 (by rw [hf]; decide)
  have n84 := op_ne x.op 84 (by rw [hf]; decide)
  have n98 := op_ne x.op 98 (by rw [hf]; decide)
  have n52 := op_ne x.op 52 (by rw [hf]; decide)
  have n53 := op_ne x.op 53 (by rw [hf]; decide)
  have n95 := op_ne x.op 95 (by rw [hf]; decide)
  have n96 := op_ne x.op 96 (by rw [hf]; decide)
  have n97 := op_ne x.op 97 (by rw [hf]; decide)
  have HLoads := hid (fun w => loads_any x.op w)
  rw [show loadsB x.op = false from by unfold loadsB; rw [hk]; simp [hf]] at HLoads
  have HStores := hid (fun w => stores_any x.op w)
  rw [show storesB x.op = false from by unfold storesB; rw [hk]; simp [hf]] at HStores
  have HBranches := hid (fun w => branches_any x.op w)
  rw [show branchesB x.op = false from by unfold branchesB; rw [hk]; simp [hf]] at HBranches
  have HSystems := hid (fun w => systems_any x.op w)
  rw [show systemsB x.op = true from by unfold systemsB; rw [hk]; simp [hf]] at HSystems
  have c0 := HX.out.cell 0
  obtain ⟨op, rd, rs1, rs2, imm, csr, aq, rl⟩ := x
  dsimp only at *
  simp only [List.getElem?_toArray, List.getElem?_cons_zero] at c0
  clear hf hk h1 h2
  have HO := hid (Only2.refl R X w)
  go_enter Tryd.func51, Tryd.ntmps51
  go_wp2_with fail
  refine (HLoads.out _).mono ?_
  rintro e w1 ⟨rfl, hb⟩
  have HX_ := hid (HX.out.below hb); have HR_ := hid (HR.out.below hb); have HO_ := hid (HO.out.below hb); clear HX HR HO c0 hb; have HX := HX_; have HR := HR_; have HO := HO_; clear HX_ HR_ HO_
  have c0 := HX.out.cell 0
  simp only [List.getElem?_toArray, List.getElem?_cons_zero] at c0
  go_wp2_with fail
  refine (HStores.out _).mono ?_
  rintro e w2 ⟨rfl, hb⟩
  have HX_ := hid (HX.out.below hb); have HR_ := hid (HR.out.below hb); have HO_ := hid (HO.out.below hb); clear HX HR HO c0 hb; have HX := HX_; have HR := HR_; have HO := HO_; clear HX_ HR_ HO_
  have c0 := HX.out.cell 0
  simp only [List.getElem?_toArray, List.getElem?_cons_zero] at c0
  go_wp2_with fail
  refine (HBranches.out _).mono ?_
  rintro e w3 ⟨rfl, hb⟩
  have HX_ := hid (HX.out.below hb); have HR_ := hid (HR.out.below hb); have HO_ := hid (HO.out.below hb); clear HX HR HO c0 hb; have HX := HX_; have HR := HR_; have HO := HO_; clear HX_ HR_ HO_
  have c0 := HX.out.cell 0
  simp only [List.getElem?_toArray, List.getElem?_cons_zero] at c0
  go_wp2_with fail
  refine (HSystems.out _).mono ?_
  rintro e w4 ⟨rfl, hb⟩
  have HX_ := hid (HX.out.below hb); have HR_ := hid (HR.out.below hb); have HO_ := hid (HO.out.below hb); clear HX HR HO c0 hb; have HX := HX_; have HR := HR_; have HO := HO_; clear HX_ HR_ HO_
  have c0 := HX.out.cell 0
  simp only [List.getElem?_toArray, List.getElem?_cons_zero] at c0
  skip
  go_wp2_with fail
  clear c0
  refine (HA0.out _ HR.out).mono ?_
  rintro e w5 ⟨rfl, hr1, ho1⟩
  have HX_ := hid (HX.out.only HN.out ho1); have HR_ := hid hr1; have HO_ := hid (HO.out.only ho1); clear HX HR HO hr1 ho1; have HX := HX_; have HR := HR_; have HO := HO_; clear HX_ HR_ HO_
  go_wp2_with fail
  skip
  refine (HA1.out _ HR.out).mono ?_
  rintro e w6 ⟨rfl, hr1, ho1⟩
  have HX_ := hid (HX.out.only HN.out ho1); have HR_ := hid hr1; have HO_ := hid (HO.out.only ho1); clear HX HR HO hr1 ho1; have HX := HX_; have HR := HR_; have HO := HO_; clear HX_ HR_ HO_
  have c1 := HX.out.cell 1
  have f1 := HX.out.free 1
  simp only [List.getElem?_toArray, List.getElem?_cons_zero, List.getElem?_cons_succ] at c1
  have c5 := HX.out.cell 5
  have f5 := HX.out.free 5
  simp only [List.getElem?_toArray, List.getElem?_cons_zero, List.getElem?_cons_succ] at c5
  go_wp2_with fail
  have HR_ := hid (HR.out.setX HX.out HN.out 1 (.int .i64 (y0.1))); have HX_ := hid (HX.out.set1 (y0.1)); have HO_ := hid (HO.out.setX 1 (.int .i64 (y0.1))); clear HR HX HO; have HR := HR_; have HX := HX_; have HO := HO_; clear HR_ HX_ HO_
  have HR_ := hid (HR.out.setX HX.out HN.out 5 (.int .i64 (y1.1))); have HX_ := hid (HX.out.set5 (y1.1)); have HO_ := hid (HO.out.setX 5 (.int .i64 (y1.1))); clear HR HX HO; have HR := HR_; have HX := HX_; have HO := HO_; clear HR_ HX_ HO_
  dsimp only at HX
  skip
  refine (HA2.out _ HR.out).mono ?_
  have hl2 := HL2.out _ HR.out
  rintro e w7 ⟨rfl, hr1, ho1⟩
  have HX_ := hid (HX.out.only HN.out ho1); have HR_ := hid hr1; have HO_ := hid (HO.out.only ho1); have HLL2 := hid hl2; clear HX HR HO hr1 ho1 hl2; have HX := HX_; have HR := HR_; have HO := HO_; clear HX_ HR_ HO_
  go_wp2_with fail
  refine (HB2.out _ HR.out HLL2.out).mono ?_
  rintro e w8 ⟨rfl, hr1, ho1⟩
  have HX_ := hid (HX.out.only HN.out ho1); have HR_ := hid hr1; have HO_ := hid (HO.out.only ho1); clear HX HR HO hr1 ho1; have HX := HX_; have HR := HR_; have HO := HO_; clear HX_ HR_ HO_
  have c4 := HX.out.cell 4
  have f4 := HX.out.free 4
  simp only [List.getElem?_toArray, List.getElem?_cons_zero, List.getElem?_cons_succ] at c4
  go_wp2_with fail
  have HR_ := hid (HR.out.setX HX.out HN.out 4 (.int .i64 (y2.1))); have HX_ := hid (HX.out.set4 (y2.1)); have HO_ := hid (HO.out.setX 4 (.int .i64 (y2.1))); clear HR HX HO; have HR := HR_; have HX := HX_; have HO := HO_; clear HR_ HX_ HO_
  dsimp only at HX
  go_end0
  exact ⟨rfl, HR.out, HX.out, HO.out⟩

set_option maxHeartbeats 8000000 in
set_option maxRecDepth 100000 in
theorem parts_f14 (R X : Nat) (x : Ins) (r : Rd) (w : World) (h1 : 1 ≤ x.op) (h2 : x.op ≤ 98) (hf : (rowAt x.op).form = 14) (hx : XAt w X x) (h : RdAt w R r) :
    Calls Tryd.prog 51 #[.pointer (some ⟨R, 0, none⟩), .pointer (some ⟨X, 0, none⟩)] w (PartsPost R X w (partsR x r).1 (partsR x r).2) := by
  have hk : known x.op = true := by simp [known]; omega
  have hn : X ≠ R := h.ne hx
  have hpr : partsR x r = ({ x with rd := (regR r).1, rs1 := (placeR true (regR r).2).1.2 }, (placeR true (regR r).2).2) := by unfold partsR; simp [hf]
  rw [hpr]; clear hpr
  dsimp only
  have HA0 := hid (fun w1 h1 => reg_any' R (r) w1 h1)
  have HA1 := hid (fun w1 h1 => place_any true R ((regR r).2) w1 h1)
  generalize regR r = y0 at *
  generalize placeR true y0.2 = y1 at *
  have HX := hid hx; have HR := hid h; have HN := hid hn; clear hx h hn
  have HLoads := hid (fun w => loads_any x.op w)
  rw [show loadsB x.op = false from by unfold loadsB; rw [hk]; simp [hf]] at HLoads
  have HStores := hid (fun w => stores_any x.op w)
  rw [show storesB x.op = false from by unfold storesB; rw [hk]; simp [hf]] at HStores
  have HBranches := hid (fun w => branches_any x.op w)
  rw [show branchesB x.op = false from by unfold branchesB; rw [hk]; simp [hf]] at HBranches
  have HSystems := hid (fun w => systems_any x.op w)
  rw [show systemsB x.op = false from by unfold systemsB; rw [hk]; simp [hf]] at HSystems
  have c0 := HX.out.cell 0
  obtain ⟨op, rd, rs1, rs2, imm, csr, aq, rl⟩ := x
  dsimp only at *
  simp only [List.getElem?_toArray, List.getElem?_cons_zero] at c0
  have hop : op = 73 ∨ op = 84 := by
    have key : ∀ i : Fin 98, (rowAt ((i.val + 1 : Nat) : Int)).form = 14 → i.val + 1 = 73 ∨ i.val + 1 = 84 := by decide +kernel
    have h := key ⟨(op - 1).toNat, by omega⟩
    have e : (((op - 1).toNat + 1 : Nat) : Int) = op := by omega
    simp only [e] at h
    have := h hf
    omega
  clear hf hk h1 h2
  rcases hop with rfl | rfl
  all_goals
    have HO := hid (Only2.refl R X w)
    go_enter Tryd.func51, Tryd.ntmps51
    go_wp2_with fail
    refine (HLoads.out _).mono ?_
    rintro e w1 ⟨rfl, hb⟩
    have HX_ := hid (HX.out.below hb); have HR_ := hid (HR.out.below hb); have HO_ := hid (HO.out.below hb); clear HX HR HO c0 hb; have HX := HX_; have HR := HR_; have HO := HO_; clear HX_ HR_ HO_
    have c0 := HX.out.cell 0
    simp only [List.getElem?_toArray, List.getElem?_cons_zero] at c0
    go_wp2_with fail
    refine (HStores.out _).mono ?_
    rintro e w2 ⟨rfl, hb⟩
    have HX_ := hid (HX.out.below hb); have HR_ := hid (HR.out.below hb); have HO_ := hid (HO.out.below hb); clear HX HR HO c0 hb; have HX := HX_; have HR := HR_; have HO := HO_; clear HX_ HR_ HO_
    have c0 := HX.out.cell 0
    simp only [List.getElem?_toArray, List.getElem?_cons_zero] at c0
    go_wp2_with fail
    refine (HBranches.out _).mono ?_
    rintro e w3 ⟨rfl, hb⟩
    have HX_ := hid (HX.out.below hb); have HR_ := hid (HR.out.below hb); have HO_ := hid (HO.out.below hb); clear HX HR HO c0 hb; have HX := HX_; have HR := HR_; have HO := HO_; clear HX_ HR_ HO_
    have c0 := HX.out.cell 0
    simp only [List.getElem?_toArray, List.getElem?_cons_zero] at c0
    go_wp2_with fail
    refine (HSystems.out _).mono ?_
    rintro e w4 ⟨rfl, hb⟩
    have HX_ := hid (HX.out.below hb); have HR_ := hid (HR.out.below hb); have HO_ := hid (HO.out.below hb); clear HX HR HO c0 hb; have HX := HX_; have HR := HR_; have HO := HO_; clear HX_ HR_ HO_
    have c0 := HX.out.cell 0
    simp only [List.getElem?_toArray, List.getElem?_cons_zero] at c0
    skip
    go_wp2_with fail
    clear c0
    refine (HA0.out _ HR.out).mono ?_
    rintro e w5 ⟨rfl, hr1, ho1⟩
    have HX_ := hid (HX.out.only HN.out ho1); have HR_ := hid hr1; have HO_ := hid (HO.out.only ho1); clear HX HR HO hr1 ho1; have HX := HX_; have HR := HR_; have HO := HO_; clear HX_ HR_ HO_
    have c1 := HX.out.cell 1
    have f1 := HX.out.free 1
    simp only [List.getElem?_toArray, List.getElem?_cons_zero, List.getElem?_cons_succ] at c1
    go_wp2_with fail
    have HR_ := hid (HR.out.setX HX.out HN.out 1 (.int .i64 (y0.1))); have HX_ := hid (HX.out.set1 (y0.1)); have HO_ := hid (HO.out.setX 1 (.int .i64 (y0.1))); clear HR HX HO; have HR := HR_; have HX := HX_; have HO := HO_; clear HR_ HX_ HO_
    dsimp only at HX
    skip
    refine (HA1.out _ HR.out).mono ?_
    rintro e w6 ⟨rfl, hr1, ho1⟩
    have HX_ := hid (HX.out.only HN.out ho1); have HR_ := hid hr1; have HO_ := hid (HO.out.only ho1); clear HX HR HO hr1 ho1; have HX := HX_; have HR := HR_; have HO := HO_; clear HX_ HR_ HO_
    have c2 := HX.out.cell 2
    have f2 := HX.out.free 2
    simp only [List.getElem?_toArray, List.getElem?_cons_zero, List.getElem?_cons_succ] at c2
    go_wp2_with fail
    have HR_ := hid (HR.out.setX HX.out HN.out 2 (.int .i64 (y1.1.2))); have HX_ := hid (HX.out.set2 (y1.1.2)); have HO_ := hid (HO.out.setX 2 (.int .i64 (y1.1.2))); clear HR HX HO; have HR := HR_; have HX := HX_; have HO := HO_; clear HR_ HX_ HO_
    dsimp only at HX
    go_end0
    exact ⟨rfl, HR.out, HX.out, HO.out⟩

set_option maxHeartbeats 8000000 in
set_option maxRecDepth 100000 in
theorem parts_f15 (R X : Nat) (x : Ins) (r : Rd) (w : World) (h1 : 1 ≤ x.op) (h2 : x.op ≤ 98) (hf : (rowAt x.op).form = 15) (hx : XAt w X x) (h : RdAt w R r) :
    Calls Tryd.prog 51 #[.pointer (some ⟨R, 0, none⟩), .pointer (some ⟨X, 0, none⟩)] w (PartsPost R X w (partsR x r).1 (partsR x r).2) := by
  have hk : known x.op = true := by simp [known]; omega
  have hn : X ≠ R := h.ne hx
  have hpr : partsR x r = ({ x with rd := (regR r).1, rs2 := (regR (regR r).2).1, rs1 := (placeR true (regR (regR r).2).2).1.2 }, (placeR true (regR (regR r).2).2).2) := by unfold partsR; simp [hf]
  rw [hpr]; clear hpr
  dsimp only
  have HA0 := hid (fun w1 h1 => reg_any' R (r) w1 h1)
  have HA1 := hid (fun w1 h1 => reg_any' R ((regR r).2) w1 h1)
  have HA2 := hid (fun w1 h1 => place_any true R ((regR (regR r).2).2) w1 h1)
  generalize regR r = y0 at *
  generalize regR y0.2 = y1 at *
  generalize placeR true y1.2 = y2 at *
  have HX := hid hx; have HR := hid h; have HN := hid hn; clear hx h hn
  have n1 := op_ne x.op 1 (by rw [hf]; decide)
  have n2 := op_ne x.op 2 (by rw [hf]; decide)
  have n3 := op_ne x.op 3 (by rw [hf]; decide)
  have n54 := op_ne x.op 54 (by rw [hf]; decide)
  have n55 := op_ne x.op 55 (by rw [hf]; decide)
  have n56 := op_ne x.op 56 (by rw [hf]; decide)
  have n73 := op_ne x.op 73 (by rw [hf]; decide)
  have n84 := op_ne x.op 84 (by rw [hf]; decide)
  have n98 := op_ne x.op 98 (by rw [hf]; decide)
  have n52 := op_ne x.op 52 (by rw [hf]; decide)
  have n53 := op_ne x.op 53 (by rw [hf]; decide)
  have n95 := op_ne x.op 95 (by rw [hf]; decide)
  have n96 := op_ne x.op 96 (by rw [hf]; decide)
  have n97 := op_ne x.op 97 (by rw [hf]; decide)
  have HLoads := hid (fun w => loads_any x.op w)
  rw [show loadsB x.op = false from by unfold loadsB; rw [hk]; simp [hf]] at HLoads
  have HStores := hid (fun w => stores_any x.op w)
  rw [show storesB x.op = false from by unfold storesB; rw [hk]; simp [hf]] at HStores
  have HBranches := hid (fun w => branches_any x.op w)
  rw [show branchesB x.op = false from by unfold branchesB; rw [hk]; simp [hf]] at HBranches
  have HSystems := hid (fun w => systems_any x.op w)
  rw [show systemsB x.op = false from by unfold systemsB; rw [hk]; simp [hf]] at HSystems
  have HAtomics := hid (fun w => atomics_any x.op w)
  rw [show atomicsB x.op = true from by unfold atomicsB; rw [hk]; simp [hf]] at HAtomics
  have c0 := HX.out.cell 0
  obtain ⟨op, rd, rs1, rs2, imm, csr, aq, rl⟩ := x
  dsimp only at *
  simp only [List.getElem?_toArray, List.getElem?_cons_zero] at c0
  clear hf hk h1 h2
  have HO := hid (Only2.refl R X w)
  go_enter Tryd.func51, Tryd.ntmps51
  go_wp2_with fail
  refine (HLoads.out _).mono ?_
  rintro e w1 ⟨rfl, hb⟩
  have HX_ := hid (HX.out.below hb); have HR_ := hid (HR.out.below hb); have HO_ := hid (HO.out.below hb); clear HX HR HO c0 hb; have HX := HX_; have HR := HR_; have HO := HO_; clear HX_ HR_ HO_
  have c0 := HX.out.cell 0
  simp only [List.getElem?_toArray, List.getElem?_cons_zero] at c0
  go_wp2_with fail
  refine (HStores.out _).mono ?_
  rintro e w2 ⟨rfl, hb⟩
  have HX_ := hid (HX.out.below hb); have HR_ := hid (HR.out.below hb); have HO_ := hid (HO.out.below hb); clear HX HR HO c0 hb; have HX := HX_; have HR := HR_; have HO := HO_; clear HX_ HR_ HO_
  have c0 := HX.out.cell 0
  simp only [List.getElem?_toArray, List.getElem?_cons_zero] at c0
  go_wp2_with fail
  refine (HBranches.out _).mono ?_
  rintro e w3 ⟨rfl, hb⟩
  have HX_ := hid (HX.out.below hb); have HR_ := hid (HR.out.below hb); have HO_ := hid (HO.out.below hb); clear HX HR HO c0 hb; have HX := HX_; have HR := HR_; have HO := HO_; clear HX_ HR_ HO_
  have c0 := HX.out.cell 0
  simp only [List.getElem?_toArray, List.getElem?_cons_zero] at c0
  go_wp2_with fail
  refine (HSystems.out _).mono ?_
  rintro e w4 ⟨rfl, hb⟩
  have HX_ := hid (HX.out.below hb); have HR_ := hid (HR.out.below hb); have HO_ := hid (HO.out.below hb); clear HX HR HO c0 hb; have HX := HX_; have HR := HR_; have HO := HO_; clear HX_ HR_ HO_
  have c0 := HX.out.cell 0
  simp only [List.getElem?_toArray, List.getElem?_cons_zero] at c0
  go_wp2_with fail
  refine (HAtomics.out _).mono ?_
  rintro e w5 ⟨rfl, hb⟩
  have HX_ := hid (HX.out.below hb); have HR_ := hid (HR.out.below hb); have HO_ := hid (HO.out.below hb); clear HX HR HO c0 hb; have HX := HX_; have HR := HR_; have HO := HO_; clear HX_ HR_ HO_
  have c0 := HX.out.cell 0
  simp only [List.getElem?_toArray, List.getElem?_cons_zero] at c0
  skip
  go_wp2_with fail
  clear c0
  refine (HA0.out _ HR.out).mono ?_
  rintro e w6 ⟨rfl, hr1, ho1⟩
  have HX_ := hid (HX.out.only HN.out ho1); have HR_ := hid hr1; have HO_ := hid (HO.out.only ho1); clear HX HR HO hr1 ho1; have HX := HX_; have HR := HR_; have HO := HO_; clear HX_ HR_ HO_
  go_wp2_with fail
  skip
  refine (HA1.out _ HR.out).mono ?_
  rintro e w7 ⟨rfl, hr1, ho1⟩
  have HX_ := hid (HX.out.only HN.out ho1); have HR_ := hid hr1; have HO_ := hid (HO.out.only ho1); clear HX HR HO hr1 ho1; have HX := HX_; have HR := HR_; have HO := HO_; clear HX_ HR_ HO_
  have c1 := HX.out.cell 1
  have f1 := HX.out.free 1
  simp only [List.getElem?_toArray, List.getElem?_cons_zero, List.getElem?_cons_succ] at c1
  have c3 := HX.out.cell 3
  have f3 := HX.out.free 3
  simp only [List.getElem?_toArray, List.getElem?_cons_zero, List.getElem?_cons_succ] at c3
  go_wp2_with fail
  have HR_ := hid (HR.out.setX HX.out HN.out 1 (.int .i64 (y0.1))); have HX_ := hid (HX.out.set1 (y0.1)); have HO_ := hid (HO.out.setX 1 (.int .i64 (y0.1))); clear HR HX HO; have HR := HR_; have HX := HX_; have HO := HO_; clear HR_ HX_ HO_
  have HR_ := hid (HR.out.setX HX.out HN.out 3 (.int .i64 (y1.1))); have HX_ := hid (HX.out.set3 (y1.1)); have HO_ := hid (HO.out.setX 3 (.int .i64 (y1.1))); clear HR HX HO; have HR := HR_; have HX := HX_; have HO := HO_; clear HR_ HX_ HO_
  dsimp only at HX
  skip
  refine (HA2.out _ HR.out).mono ?_
  rintro e w8 ⟨rfl, hr1, ho1⟩
  have HX_ := hid (HX.out.only HN.out ho1); have HR_ := hid hr1; have HO_ := hid (HO.out.only ho1); clear HX HR HO hr1 ho1; have HX := HX_; have HR := HR_; have HO := HO_; clear HX_ HR_ HO_
  have c2 := HX.out.cell 2
  have f2 := HX.out.free 2
  simp only [List.getElem?_toArray, List.getElem?_cons_zero, List.getElem?_cons_succ] at c2
  go_wp2_with fail
  have HR_ := hid (HR.out.setX HX.out HN.out 2 (.int .i64 (y2.1.2))); have HX_ := hid (HX.out.set2 (y2.1.2)); have HO_ := hid (HO.out.setX 2 (.int .i64 (y2.1.2))); clear HR HX HO; have HR := HR_; have HX := HX_; have HO := HO_; clear HR_ HX_ HO_
  dsimp only at HX
  go_end0
  exact ⟨rfl, HR.out, HX.out, HO.out⟩

set_option maxHeartbeats 8000000 in
set_option maxRecDepth 100000 in
theorem parts_f16 (R X : Nat) (x : Ins) (r : Rd) (w : World) (h1 : 1 ≤ x.op) (h2 : x.op ≤ 98) (hf : (rowAt x.op).form = 16) (hx : XAt w X x) (h : RdAt w R r) :
    Calls Tryd.prog 51 #[.pointer (some ⟨R, 0, none⟩), .pointer (some ⟨X, 0, none⟩)] w (PartsPost R X w (partsR x r).1 (partsR x r).2) := by
  have hk : known x.op = true := by simp [known]; omega
  have hn : X ≠ R := h.ne hx
  have hpr : partsR x r = ({ x with rs1 := (regR r).1, rs2 := (regR (regR r).2).1 }, (regR (regR r).2).2) := by unfold partsR; simp [hf]
  rw [hpr]; clear hpr
  dsimp only
  have HA0 := hid (fun w1 h1 => reg_any' R (r) w1 h1)
  have HA1 := hid (fun w1 h1 => reg_any' R ((regR r).2) w1 h1)
  generalize regR r = y0 at *
  generalize regR y0.2 = y1 at *
  have HX := hid hx; have HR := hid h; have HN := hid hn; clear hx h hn
  have HLoads := hid (fun w => loads_any x.op w)
  rw [show loadsB x.op = false from by unfold loadsB; rw [hk]; simp [hf]] at HLoads
  have HStores := hid (fun w => stores_any x.op w)
  rw [show storesB x.op = false from by unfold storesB; rw [hk]; simp [hf]] at HStores
  have HBranches := hid (fun w => branches_any x.op w)
  rw [show branchesB x.op = false from by unfold branchesB; rw [hk]; simp [hf]] at HBranches
  have HSystems := hid (fun w => systems_any x.op w)
  rw [show systemsB x.op = false from by unfold systemsB; rw [hk]; simp [hf]] at HSystems
  have HAtomics := hid (fun w => atomics_any x.op w)
  rw [show atomicsB x.op = false from by unfold atomicsB; rw [hk]; simp [hf]] at HAtomics
  have c0 := HX.out.cell 0
  obtain ⟨op, rd, rs1, rs2, imm, csr, aq, rl⟩ := x
  dsimp only at *
  simp only [List.getElem?_toArray, List.getElem?_cons_zero] at c0
  have hop : op = 98 := by
    have key : ∀ i : Fin 98, (rowAt ((i.val + 1 : Nat) : Int)).form = 16 → i.val + 1 = 98 := by decide +kernel
    have h := key ⟨(op - 1).toNat, by omega⟩
    have e : (((op - 1).toNat + 1 : Nat) : Int) = op := by omega
    simp only [e] at h
    have := h hf
    omega
  clear hf hk h1 h2
  rcases hop with rfl
  all_goals
    have HO := hid (Only2.refl R X w)
    go_enter Tryd.func51, Tryd.ntmps51
    go_wp2_with fail
    refine (HLoads.out _).mono ?_
    rintro e w1 ⟨rfl, hb⟩
    have HX_ := hid (HX.out.below hb); have HR_ := hid (HR.out.below hb); have HO_ := hid (HO.out.below hb); clear HX HR HO c0 hb; have HX := HX_; have HR := HR_; have HO := HO_; clear HX_ HR_ HO_
    have c0 := HX.out.cell 0
    simp only [List.getElem?_toArray, List.getElem?_cons_zero] at c0
    go_wp2_with fail
    refine (HStores.out _).mono ?_
    rintro e w2 ⟨rfl, hb⟩
    have HX_ := hid (HX.out.below hb); have HR_ := hid (HR.out.below hb); have HO_ := hid (HO.out.below hb); clear HX HR HO c0 hb; have HX := HX_; have HR := HR_; have HO := HO_; clear HX_ HR_ HO_
    have c0 := HX.out.cell 0
    simp only [List.getElem?_toArray, List.getElem?_cons_zero] at c0
    go_wp2_with fail
    refine (HBranches.out _).mono ?_
    rintro e w3 ⟨rfl, hb⟩
    have HX_ := hid (HX.out.below hb); have HR_ := hid (HR.out.below hb); have HO_ := hid (HO.out.below hb); clear HX HR HO c0 hb; have HX := HX_; have HR := HR_; have HO := HO_; clear HX_ HR_ HO_
    have c0 := HX.out.cell 0
    simp only [List.getElem?_toArray, List.getElem?_cons_zero] at c0
    go_wp2_with fail
    refine (HSystems.out _).mono ?_
    rintro e w4 ⟨rfl, hb⟩
    have HX_ := hid (HX.out.below hb); have HR_ := hid (HR.out.below hb); have HO_ := hid (HO.out.below hb); clear HX HR HO c0 hb; have HX := HX_; have HR := HR_; have HO := HO_; clear HX_ HR_ HO_
    have c0 := HX.out.cell 0
    simp only [List.getElem?_toArray, List.getElem?_cons_zero] at c0
    go_wp2_with fail
    refine (HAtomics.out _).mono ?_
    rintro e w5 ⟨rfl, hb⟩
    have HX_ := hid (HX.out.below hb); have HR_ := hid (HR.out.below hb); have HO_ := hid (HO.out.below hb); clear HX HR HO c0 hb; have HX := HX_; have HR := HR_; have HO := HO_; clear HX_ HR_ HO_
    have c0 := HX.out.cell 0
    simp only [List.getElem?_toArray, List.getElem?_cons_zero] at c0
    skip
    go_wp2_with fail
    clear c0
    refine (HA0.out _ HR.out).mono ?_
    rintro e w6 ⟨rfl, hr1, ho1⟩
    have HX_ := hid (HX.out.only HN.out ho1); have HR_ := hid hr1; have HO_ := hid (HO.out.only ho1); clear HX HR HO hr1 ho1; have HX := HX_; have HR := HR_; have HO := HO_; clear HX_ HR_ HO_
    go_wp2_with fail
    skip
    refine (HA1.out _ HR.out).mono ?_
    rintro e w7 ⟨rfl, hr1, ho1⟩
    have HX_ := hid (HX.out.only HN.out ho1); have HR_ := hid hr1; have HO_ := hid (HO.out.only ho1); clear HX HR HO hr1 ho1; have HX := HX_; have HR := HR_; have HO := HO_; clear HX_ HR_ HO_
    have c2 := HX.out.cell 2
    have f2 := HX.out.free 2
    simp only [List.getElem?_toArray, List.getElem?_cons_zero, List.getElem?_cons_succ] at c2
    have c3 := HX.out.cell 3
    have f3 := HX.out.free 3
    simp only [List.getElem?_toArray, List.getElem?_cons_zero, List.getElem?_cons_succ] at c3
    go_wp2_with fail
    have HR_ := hid (HR.out.setX HX.out HN.out 2 (.int .i64 (y0.1))); have HX_ := hid (HX.out.set2 (y0.1)); have HO_ := hid (HO.out.setX 2 (.int .i64 (y0.1))); clear HR HX HO; have HR := HR_; have HX := HX_; have HO := HO_; clear HR_ HX_ HO_
    have HR_ := hid (HR.out.setX HX.out HN.out 3 (.int .i64 (y1.1))); have HX_ := hid (HX.out.set3 (y1.1)); have HO_ := hid (HO.out.setX 3 (.int .i64 (y1.1))); clear HR HX HO; have HR := HR_; have HX := HX_; have HO := HO_; clear HR_ HX_ HO_
    dsimp only at HX
    go_end0
    exact ⟨rfl, HR.out, HX.out, HO.out⟩

set_option maxHeartbeats 8000000 in
set_option maxRecDepth 100000 in
theorem parts_f11 (R X : Nat) (x : Ins) (r : Rd) (w : World) (h1 : 1 ≤ x.op) (h2 : x.op ≤ 98) (hf : (rowAt x.op).form = 11) (hx : XAt w X x) (h : RdAt w R r) :
    Calls Tryd.prog 51 #[.pointer (some ⟨R, 0, none⟩), .pointer (some ⟨X, 0, none⟩)] w (PartsPost R X w (partsR x r).1 (partsR x r).2) := by
  have hk : known x.op = true := by simp [known]; omega
  have hn : X ≠ R := h.ne hx
  have hpr : partsR x r = (x, r) := by unfold partsR; simp [hf]
  rw [hpr]; clear hpr
  dsimp only
  have HX := hid hx; have HR := hid h; have HN := hid hn; clear hx h hn
  have HLoads := hid (fun w => loads_any x.op w)
  rw [show loadsB x.op = false from by unfold loadsB; rw [hk]; simp [hf]] at HLoads
  have HStores := hid (fun w => stores_any x.op w)
  rw [show storesB x.op = false from by unfold storesB; rw [hk]; simp [hf]] at HStores
  have HBranches := hid (fun w => branches_any x.op w)
  rw [show branchesB x.op = false from by unfold branchesB; rw [hk]; simp [hf]] at HBranches
  have HSystems := hid (fun w => systems_any x.op w)
  rw [show systemsB x.op = false from by unfold systemsB; rw [hk]; simp [hf]] at HSystems
  have HAtomics := hid (fun w => atomics_any x.op w)
  rw [show atomicsB x.op = false from by unfold atomicsB; rw [hk]; simp [hf]] at HAtomics
  have c0 := HX.out.cell 0
  obtain ⟨op, rd, rs1, rs2, imm, csr, aq, rl⟩ := x
  dsimp only at *
  simp only [List.getElem?_toArray, List.getElem?_cons_zero] at c0
  have hop : op = 52 ∨ op = 53 ∨ op = 95 ∨ op = 96 ∨ op = 97 := by
    have key : ∀ i : Fin 98, (rowAt ((i.val + 1 : Nat) : Int)).form = 11 → i.val + 1 = 52 ∨ i.val + 1 = 53 ∨ i.val + 1 = 95 ∨ i.val + 1 = 96 ∨ i.val + 1 = 97 := by decide +kernel
    have h := key ⟨(op - 1).toNat, by omega⟩
    have e : (((op - 1).toNat + 1 : Nat) : Int) = op := by omega
    simp only [e] at h
    have := h hf
    omega
  clear hf hk h1 h2
  rcases hop with rfl | rfl | rfl | rfl | rfl
  all_goals
    have HO := hid (Only2.refl R X w)
    go_enter Tryd.func51, Tryd.ntmps51
    go_wp2_with fail
    refine (HLoads.out _).mono ?_
    rintro e w1 ⟨rfl, hb⟩
    have HX_ := hid (HX.out.below hb); have HR_ := hid (HR.out.below hb); have HO_ := hid (HO.out.below hb); clear HX HR HO c0 hb; have HX := HX_; have HR := HR_; have HO := HO_; clear HX_ HR_ HO_
    have c0 := HX.out.cell 0
    simp only [List.getElem?_toArray, List.getElem?_cons_zero] at c0
    go_wp2_with fail
    refine (HStores.out _).mono ?_
    rintro e w2 ⟨rfl, hb⟩
    have HX_ := hid (HX.out.below hb); have HR_ := hid (HR.out.below hb); have HO_ := hid (HO.out.below hb); clear HX HR HO c0 hb; have HX := HX_; have HR := HR_; have HO := HO_; clear HX_ HR_ HO_
    have c0 := HX.out.cell 0
    simp only [List.getElem?_toArray, List.getElem?_cons_zero] at c0
    go_wp2_with fail
    refine (HBranches.out _).mono ?_
    rintro e w3 ⟨rfl, hb⟩
    have HX_ := hid (HX.out.below hb); have HR_ := hid (HR.out.below hb); have HO_ := hid (HO.out.below hb); clear HX HR HO c0 hb; have HX := HX_; have HR := HR_; have HO := HO_; clear HX_ HR_ HO_
    have c0 := HX.out.cell 0
    simp only [List.getElem?_toArray, List.getElem?_cons_zero] at c0
    go_wp2_with fail
    refine (HSystems.out _).mono ?_
    rintro e w4 ⟨rfl, hb⟩
    have HX_ := hid (HX.out.below hb); have HR_ := hid (HR.out.below hb); have HO_ := hid (HO.out.below hb); clear HX HR HO c0 hb; have HX := HX_; have HR := HR_; have HO := HO_; clear HX_ HR_ HO_
    have c0 := HX.out.cell 0
    simp only [List.getElem?_toArray, List.getElem?_cons_zero] at c0
    go_wp2_with fail
    refine (HAtomics.out _).mono ?_
    rintro e w5 ⟨rfl, hb⟩
    have HX_ := hid (HX.out.below hb); have HR_ := hid (HR.out.below hb); have HO_ := hid (HO.out.below hb); clear HX HR HO c0 hb; have HX := HX_; have HR := HR_; have HO := HO_; clear HX_ HR_ HO_
    have c0 := HX.out.cell 0
    simp only [List.getElem?_toArray, List.getElem?_cons_zero] at c0
    skip
    go_wp2_with fail
    go_end0
    exact ⟨rfl, HR.out, HX.out, HO.out⟩

set_option maxHeartbeats 8000000 in
set_option maxRecDepth 100000 in
theorem parts_f3 (R X : Nat) (x : Ins) (r : Rd) (w : World) (h1 : 1 ≤ x.op) (h2 : x.op ≤ 98) (hf : (rowAt x.op).form = 3 ∨ (rowAt x.op).form = 7 ∨ (rowAt x.op).form = 8 ∨ (rowAt x.op).form = 10) (hx : XAt w X x) (h : RdAt w R r) :
    Calls Tryd.prog 51 #[.pointer (some ⟨R, 0, none⟩), .pointer (some ⟨X, 0, none⟩)] w (PartsPost R X w (partsR x r).1 (partsR x r).2) := by
  have hk : known x.op = true := by simp [known]; omega
  have hn : X ≠ R := h.ne hx
  have hpr : partsR x r = ({ x with rd := (regR r).1, rs1 := (regR (regR r).2).1, imm := (numR (regR (regR r).2).2).1 }, (numR (regR (regR r).2).2).2) := by unfold partsR; rcases hf with hf | hf | hf | hf <;> simp [hf]
  rw [hpr]; clear hpr
  dsimp only
  have HA0 := hid (fun w1 h1 => reg_any' R (r) w1 h1)
  have HA1 := hid (fun w1 h1 => reg_any' R ((regR r).2) w1 h1)
  have HA2 := hid (fun w1 h1 => next_any R ((regR (regR r).2).2) w1 h1)
  have HB2 := hid (fun w1 h1 hl => count_num R ((regR (regR r).2).2) w1 h1 hl)
  have HL2 := hid (fun w1 (h1 : RdAt w1 R ((regR (regR r).2).2)) => nextR_len ((regR (regR r).2).2) (rdAt_len h1))
  generalize regR r = y0 at *
  generalize regR y0.2 = y1 at *
  generalize numR y1.2 = y2 at *
  generalize (nextR y1.2).1 = s2 at *
  generalize (nextR y1.2).2 = q2 at *
  have HX := hid hx; have HR := hid h; have HN := hid hn; clear hx h hn
  have n1 := op_ne x.op 1 (by rcases hf with hf | hf | hf | hf <;> rw [hf] <;> decide)
  have n2 := op_ne x.op 2 (by rcases hf with hf | hf | hf | hf <;> rw [hf] <;> decide)
  have n3 := op_ne x.op 3 (by rcases hf with hf | hf | hf | hf <;> rw [hf] <;> decide)
  have n54 := op_ne x.op 54 (by rcases hf with hf | hf | hf | hf <;> rw [hf] <;> decide)
  have n55 := op_ne x.op 55 (by rcases hf with hf | hf | hf | hf <;> rw [hf] <;> decide)
  have n56 := op_ne x.op 56 (by rcases hf with hf | hf | hf | hf <;> rw [hf] <;> decide)
  have n73 := op_ne x.op 73 (by rcases hf with hf | hf | hf | hf <;> rw [hf] <;> decide)
  have n84 := op_ne x.op 84 (by rcases hf with hf | hf | hf | hf <;> rw [hf] <;> decide)
  have n98 := op_ne x.op 98 (by rcases hf with hf | hf | hf | hf <;> rw [hf] <;> decide)
  have n52 := op_ne x.op 52 (by rcases hf with hf | hf | hf | hf <;> rw [hf] <;> decide)
  have n53 := op_ne x.op 53 (by rcases hf with hf | hf | hf | hf <;> rw [hf] <;> decide)
  have n95 := op_ne x.op 95 (by rcases hf with hf | hf | hf | hf <;> rw [hf] <;> decide)
  have n96 := op_ne x.op 96 (by rcases hf with hf | hf | hf | hf <;> rw [hf] <;> decide)
  have n97 := op_ne x.op 97 (by rcases hf with hf | hf | hf | hf <;> rw [hf] <;> decide)
  have HLoads := hid (fun w => loads_any x.op w)
  rw [show loadsB x.op = false from by unfold loadsB; rw [hk]; rcases hf with hf | hf | hf | hf <;> simp [hf]] at HLoads
  have HStores := hid (fun w => stores_any x.op w)
  rw [show storesB x.op = false from by unfold storesB; rw [hk]; rcases hf with hf | hf | hf | hf <;> simp [hf]] at HStores
  have HBranches := hid (fun w => branches_any x.op w)
  rw [show branchesB x.op = false from by unfold branchesB; rw [hk]; rcases hf with hf | hf | hf | hf <;> simp [hf]] at HBranches
  have HSystems := hid (fun w => systems_any x.op w)
  rw [show systemsB x.op = false from by unfold systemsB; rw [hk]; rcases hf with hf | hf | hf | hf <;> simp [hf]] at HSystems
  have HAtomics := hid (fun w => atomics_any x.op w)
  rw [show atomicsB x.op = false from by unfold atomicsB; rw [hk]; rcases hf with hf | hf | hf | hf <;> simp [hf]] at HAtomics
  have Hnum := hid (fun w => numbered_any x.op w)
  rw [show numberedB x.op = true from by rw [numbered_form _ h1 h2]; rcases hf with hf | hf | hf | hf <;> simp [hf]] at Hnum
  have c0 := HX.out.cell 0
  obtain ⟨op, rd, rs1, rs2, imm, csr, aq, rl⟩ := x
  dsimp only at *
  simp only [List.getElem?_toArray, List.getElem?_cons_zero] at c0
  clear hf hk h1 h2
  have HO := hid (Only2.refl R X w)
  go_enter Tryd.func51, Tryd.ntmps51
  go_wp2_with fail
  refine (HLoads.out _).mono ?_
  rintro e w1 ⟨rfl, hb⟩
  have HX_ := hid (HX.out.below hb); have HR_ := hid (HR.out.below hb); have HO_ := hid (HO.out.below hb); clear HX HR HO c0 hb; have HX := HX_; have HR := HR_; have HO := HO_; clear HX_ HR_ HO_
  have c0 := HX.out.cell 0
  simp only [List.getElem?_toArray, List.getElem?_cons_zero] at c0
  go_wp2_with fail
  refine (HStores.out _).mono ?_
  rintro e w2 ⟨rfl, hb⟩
  have HX_ := hid (HX.out.below hb); have HR_ := hid (HR.out.below hb); have HO_ := hid (HO.out.below hb); clear HX HR HO c0 hb; have HX := HX_; have HR := HR_; have HO := HO_; clear HX_ HR_ HO_
  have c0 := HX.out.cell 0
  simp only [List.getElem?_toArray, List.getElem?_cons_zero] at c0
  go_wp2_with fail
  refine (HBranches.out _).mono ?_
  rintro e w3 ⟨rfl, hb⟩
  have HX_ := hid (HX.out.below hb); have HR_ := hid (HR.out.below hb); have HO_ := hid (HO.out.below hb); clear HX HR HO c0 hb; have HX := HX_; have HR := HR_; have HO := HO_; clear HX_ HR_ HO_
  have c0 := HX.out.cell 0
  simp only [List.getElem?_toArray, List.getElem?_cons_zero] at c0
  go_wp2_with fail
  refine (HSystems.out _).mono ?_
  rintro e w4 ⟨rfl, hb⟩
  have HX_ := hid (HX.out.below hb); have HR_ := hid (HR.out.below hb); have HO_ := hid (HO.out.below hb); clear HX HR HO c0 hb; have HX := HX_; have HR := HR_; have HO := HO_; clear HX_ HR_ HO_
  have c0 := HX.out.cell 0
  simp only [List.getElem?_toArray, List.getElem?_cons_zero] at c0
  go_wp2_with fail
  refine (HAtomics.out _).mono ?_
  rintro e w5 ⟨rfl, hb⟩
  have HX_ := hid (HX.out.below hb); have HR_ := hid (HR.out.below hb); have HO_ := hid (HO.out.below hb); clear HX HR HO c0 hb; have HX := HX_; have HR := HR_; have HO := HO_; clear HX_ HR_ HO_
  have c0 := HX.out.cell 0
  simp only [List.getElem?_toArray, List.getElem?_cons_zero] at c0
  go_wp2_with fail
  refine (Hnum.out _).mono ?_
  rintro e w6 ⟨rfl, rfl⟩
  skip
  go_wp2_with fail
  clear c0
  refine (HA0.out _ HR.out).mono ?_
  rintro e w7 ⟨rfl, hr1, ho1⟩
  have HX_ := hid (HX.out.only HN.out ho1); have HR_ := hid hr1; have HO_ := hid (HO.out.only ho1); clear HX HR HO hr1 ho1; have HX := HX_; have HR := HR_; have HO := HO_; clear HX_ HR_ HO_
  go_wp2_with fail
  skip
  refine (HA1.out _ HR.out).mono ?_
  rintro e w8 ⟨rfl, hr1, ho1⟩
  have HX_ := hid (HX.out.only HN.out ho1); have HR_ := hid hr1; have HO_ := hid (HO.out.only ho1); clear HX HR HO hr1 ho1; have HX := HX_; have HR := HR_; have HO := HO_; clear HX_ HR_ HO_
  have c1 := HX.out.cell 1
  have f1 := HX.out.free 1
  simp only [List.getElem?_toArray, List.getElem?_cons_zero, List.getElem?_cons_succ] at c1
  have c2 := HX.out.cell 2
  have f2 := HX.out.free 2
  simp only [List.getElem?_toArray, List.getElem?_cons_zero, List.getElem?_cons_succ] at c2
  go_wp2_with fail
  have HR_ := hid (HR.out.setX HX.out HN.out 1 (.int .i64 (y0.1))); have HX_ := hid (HX.out.set1 (y0.1)); have HO_ := hid (HO.out.setX 1 (.int .i64 (y0.1))); clear HR HX HO; have HR := HR_; have HX := HX_; have HO := HO_; clear HR_ HX_ HO_
  have HR_ := hid (HR.out.setX HX.out HN.out 2 (.int .i64 (y1.1))); have HX_ := hid (HX.out.set2 (y1.1)); have HO_ := hid (HO.out.setX 2 (.int .i64 (y1.1))); clear HR HX HO; have HR := HR_; have HX := HX_; have HO := HO_; clear HR_ HX_ HO_
  dsimp only at HX
  skip
  refine (HA2.out _ HR.out).mono ?_
  have hl2 := HL2.out _ HR.out
  rintro e w9 ⟨rfl, hr1, ho1⟩
  have HX_ := hid (HX.out.only HN.out ho1); have HR_ := hid hr1; have HO_ := hid (HO.out.only ho1); have HLL2 := hid hl2; clear HX HR HO hr1 ho1 hl2; have HX := HX_; have HR := HR_; have HO := HO_; clear HX_ HR_ HO_
  go_wp2_with fail
  refine (HB2.out _ HR.out HLL2.out).mono ?_
  rintro e w10 ⟨rfl, hr1, ho1⟩
  have HX_ := hid (HX.out.only HN.out ho1); have HR_ := hid hr1; have HO_ := hid (HO.out.only ho1); clear HX HR HO hr1 ho1; have HX := HX_; have HR := HR_; have HO := HO_; clear HX_ HR_ HO_
  have c4 := HX.out.cell 4
  have f4 := HX.out.free 4
  simp only [List.getElem?_toArray, List.getElem?_cons_zero, List.getElem?_cons_succ] at c4
  go_wp2_with fail
  have HR_ := hid (HR.out.setX HX.out HN.out 4 (.int .i64 (y2.1))); have HX_ := hid (HX.out.set4 (y2.1)); have HO_ := hid (HO.out.setX 4 (.int .i64 (y2.1))); clear HR HX HO; have HR := HR_; have HX := HX_; have HO := HO_; clear HR_ HX_ HO_
  dsimp only at HX
  go_end0
  exact ⟨rfl, HR.out, HX.out, HO.out⟩

set_option maxHeartbeats 8000000 in
set_option maxRecDepth 100000 in
theorem parts_f9 (R X : Nat) (x : Ins) (r : Rd) (w : World) (h1 : 1 ≤ x.op) (h2 : x.op ≤ 98) (hf : (rowAt x.op).form = 9) (hx : XAt w X x) (h : RdAt w R r) :
    Calls Tryd.prog 51 #[.pointer (some ⟨R, 0, none⟩), .pointer (some ⟨X, 0, none⟩)] w (PartsPost R X w (partsR x r).1 (partsR x r).2) := by
  have hk : known x.op = true := by simp [known]; omega
  have hn : X ≠ R := h.ne hx
  have hpr : partsR x r = ({ x with rd := (regR r).1, rs1 := (regR (regR r).2).1, rs2 := (regR (regR (regR r).2).2).1 }, (regR (regR (regR r).2).2).2) := by unfold partsR; simp [hf]
  rw [hpr]; clear hpr
  dsimp only
  have HA0 := hid (fun w1 h1 => reg_any' R (r) w1 h1)
  have HA1 := hid (fun w1 h1 => reg_any' R ((regR r).2) w1 h1)
  have HA2 := hid (fun w1 h1 => reg_any' R ((regR (regR r).2).2) w1 h1)
  generalize regR r = y0 at *
  generalize regR y0.2 = y1 at *
  generalize regR y1.2 = y2 at *
  have HX := hid hx; have HR := hid h; have HN := hid hn; clear hx h hn
  have n1 := op_ne x.op 1 (by rw [hf]; decide)
  have n2 := op_ne x.op 2 (by rw [hf]; decide)
  have n3 := op_ne x.op 3 (by rw [hf]; decide)
  have n54 := op_ne x.op 54 (by rw [hf]; decide)
  have n55 := op_ne x.op 55 (by rw [hf]; decide)
  have n56 := op_ne x.op 56 (by rw [hf]; decide)
  have n73 := op_ne x.op 73 (by rw [hf]; decide)
  have n84 := op_ne x.op 84 (by rw [hf]; decide)
  have n98 := op_ne x.op 98 (by rw [hf]; decide)
  have n52 := op_ne x.op 52 (by rw [hf]; decide)
  have n53 := op_ne x.op 53 (by rw [hf]; decide)
  have n95 := op_ne x.op 95 (by rw [hf]; decide)
  have n96 := op_ne x.op 96 (by rw [hf]; decide)
  have n97 := op_ne x.op 97 (by rw [hf]; decide)
  have HLoads := hid (fun w => loads_any x.op w)
  rw [show loadsB x.op = false from by unfold loadsB; rw [hk]; simp [hf]] at HLoads
  have HStores := hid (fun w => stores_any x.op w)
  rw [show storesB x.op = false from by unfold storesB; rw [hk]; simp [hf]] at HStores
  have HBranches := hid (fun w => branches_any x.op w)
  rw [show branchesB x.op = false from by unfold branchesB; rw [hk]; simp [hf]] at HBranches
  have HSystems := hid (fun w => systems_any x.op w)
  rw [show systemsB x.op = false from by unfold systemsB; rw [hk]; simp [hf]] at HSystems
  have HAtomics := hid (fun w => atomics_any x.op w)
  rw [show atomicsB x.op = false from by unfold atomicsB; rw [hk]; simp [hf]] at HAtomics
  have Hnum := hid (fun w => numbered_any x.op w)
  rw [show numberedB x.op = false from by rw [numbered_form _ h1 h2]; simp [hf]] at Hnum
  have Hnum := hid (fun w => numbered_any x.op w)
  rw [show numberedB x.op = false from by rw [numbered_form _ h1 h2]; simp [hf]] at Hnum
  have c0 := HX.out.cell 0
  obtain ⟨op, rd, rs1, rs2, imm, csr, aq, rl⟩ := x
  dsimp only at *
  simp only [List.getElem?_toArray, List.getElem?_cons_zero] at c0
  clear hf hk h1 h2
  have HO := hid (Only2.refl R X w)
  go_enter Tryd.func51, Tryd.ntmps51
  go_wp2_with fail
  refine (HLoads.out _).mono ?_
  rintro e w1 ⟨rfl, hb⟩
  have HX_ := hid (HX.out.below hb); have HR_ := hid (HR.out.below hb); have HO_ := hid (HO.out.below hb); clear HX HR HO c0 hb; have HX := HX_; have HR := HR_; have HO := HO_; clear HX_ HR_ HO_
  have c0 := HX.out.cell 0
  simp only [List.getElem?_toArray, List.getElem?_cons_zero] at c0
  go_wp2_with fail
  refine (HStores.out _).mono ?_
  rintro e w2 ⟨rfl, hb⟩
  have HX_ := hid (HX.out.below hb); have HR_ := hid (HR.out.below hb); have HO_ := hid (HO.out.below hb); clear HX HR HO c0 hb; have HX := HX_; have HR := HR_; have HO := HO_; clear HX_ HR_ HO_
  have c0 := HX.out.cell 0
  simp only [List.getElem?_toArray, List.getElem?_cons_zero] at c0
  go_wp2_with fail
  refine (HBranches.out _).mono ?_
  rintro e w3 ⟨rfl, hb⟩
  have HX_ := hid (HX.out.below hb); have HR_ := hid (HR.out.below hb); have HO_ := hid (HO.out.below hb); clear HX HR HO c0 hb; have HX := HX_; have HR := HR_; have HO := HO_; clear HX_ HR_ HO_
  have c0 := HX.out.cell 0
  simp only [List.getElem?_toArray, List.getElem?_cons_zero] at c0
  go_wp2_with fail
  refine (HSystems.out _).mono ?_
  rintro e w4 ⟨rfl, hb⟩
  have HX_ := hid (HX.out.below hb); have HR_ := hid (HR.out.below hb); have HO_ := hid (HO.out.below hb); clear HX HR HO c0 hb; have HX := HX_; have HR := HR_; have HO := HO_; clear HX_ HR_ HO_
  have c0 := HX.out.cell 0
  simp only [List.getElem?_toArray, List.getElem?_cons_zero] at c0
  go_wp2_with fail
  refine (HAtomics.out _).mono ?_
  rintro e w5 ⟨rfl, hb⟩
  have HX_ := hid (HX.out.below hb); have HR_ := hid (HR.out.below hb); have HO_ := hid (HO.out.below hb); clear HX HR HO c0 hb; have HX := HX_; have HR := HR_; have HO := HO_; clear HX_ HR_ HO_
  have c0 := HX.out.cell 0
  simp only [List.getElem?_toArray, List.getElem?_cons_zero] at c0
  go_wp2_with fail
  refine (Hnum.out _).mono ?_
  rintro e w6 ⟨rfl, rfl⟩
  skip
  go_wp2_with fail
  clear c0
  refine (HA0.out _ HR.out).mono ?_
  rintro e w7 ⟨rfl, hr1, ho1⟩
  have HX_ := hid (HX.out.only HN.out ho1); have HR_ := hid hr1; have HO_ := hid (HO.out.only ho1); clear HX HR HO hr1 ho1; have HX := HX_; have HR := HR_; have HO := HO_; clear HX_ HR_ HO_
  go_wp2_with fail
  skip
  refine (HA1.out _ HR.out).mono ?_
  rintro e w8 ⟨rfl, hr1, ho1⟩
  have HX_ := hid (HX.out.only HN.out ho1); have HR_ := hid hr1; have HO_ := hid (HO.out.only ho1); clear HX HR HO hr1 ho1; have HX := HX_; have HR := HR_; have HO := HO_; clear HX_ HR_ HO_
  go_wp2_with fail
  skip
  refine (HA2.out _ HR.out).mono ?_
  rintro e w9 ⟨rfl, hr1, ho1⟩
  have HX_ := hid (HX.out.only HN.out ho1); have HR_ := hid hr1; have HO_ := hid (HO.out.only ho1); clear HX HR HO hr1 ho1; have HX := HX_; have HR := HR_; have HO := HO_; clear HX_ HR_ HO_
  have c1 := HX.out.cell 1
  have f1 := HX.out.free 1
  simp only [List.getElem?_toArray, List.getElem?_cons_zero, List.getElem?_cons_succ] at c1
  have c2 := HX.out.cell 2
  have f2 := HX.out.free 2
  simp only [List.getElem?_toArray, List.getElem?_cons_zero, List.getElem?_cons_succ] at c2
  have c3 := HX.out.cell 3
  have f3 := HX.out.free 3
  simp only [List.getElem?_toArray, List.getElem?_cons_zero, List.getElem?_cons_succ] at c3
  go_wp2_with fail
  have HR_ := hid (HR.out.setX HX.out HN.out 1 (.int .i64 (y0.1))); have HX_ := hid (HX.out.set1 (y0.1)); have HO_ := hid (HO.out.setX 1 (.int .i64 (y0.1))); clear HR HX HO; have HR := HR_; have HX := HX_; have HO := HO_; clear HR_ HX_ HO_
  have HR_ := hid (HR.out.setX HX.out HN.out 2 (.int .i64 (y1.1))); have HX_ := hid (HX.out.set2 (y1.1)); have HO_ := hid (HO.out.setX 2 (.int .i64 (y1.1))); clear HR HX HO; have HR := HR_; have HX := HX_; have HO := HO_; clear HR_ HX_ HO_
  have HR_ := hid (HR.out.setX HX.out HN.out 3 (.int .i64 (y2.1))); have HX_ := hid (HX.out.set3 (y2.1)); have HO_ := hid (HO.out.setX 3 (.int .i64 (y2.1))); clear HR HX HO; have HR := HR_; have HX := HX_; have HO := HO_; clear HR_ HX_ HO_
  dsimp only at HX
  go_end0
  exact ⟨rfl, HR.out, HX.out, HO.out⟩

theorem parts_any (R X : Nat) (x : Ins) (r : Rd) (w : World) (h1 : 1 ≤ x.op) (h2 : x.op ≤ 98) (hx : XAt w X x) (h : RdAt w R r) :
    Calls Tryd.prog 51 #[.pointer (some ⟨R, 0, none⟩), .pointer (some ⟨X, 0, none⟩)] w (PartsPost R X w (partsR x r).1 (partsR x r).2) := by
  rcases form_ok x.op h1 h2 with e | e | e | e | e | e | e | e | e | e | e | e | e | e | e | e
  · exact parts_f1 R X x r w h1 h2 e hx h
  · exact parts_f2 R X x r w h1 h2 e hx h
  · exact parts_f3 R X x r w h1 h2 (.inl e) hx h
  · exact parts_f4 R X x r w h1 h2 e hx h
  · exact parts_f5 R X x r w h1 h2 e hx h
  · exact parts_f6 R X x r w h1 h2 e hx h
  · exact parts_f3 R X x r w h1 h2 (.inr (.inl e)) hx h
  · exact parts_f3 R X x r w h1 h2 (.inr (.inr (.inl e))) hx h
  · exact parts_f9 R X x r w h1 h2 e hx h
  · exact parts_f3 R X x r w h1 h2 (.inr (.inr (.inr e))) hx h
  · exact parts_f11 R X x r w h1 h2 e hx h
  · exact parts_f12 R X x r w h1 h2 e hx h
  · exact parts_f13 R X x r w h1 h2 e hx h
  · exact parts_f14 R X x r w h1 h2 e hx h
  · exact parts_f15 R X x r w h1 h2 e hx h
  · exact parts_f16 R X x r w h1 h2 e hx h

end Go.Proofs.YteidojpklpfdeaaDoor
