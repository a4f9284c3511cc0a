/- The walk of asm.join. What asm.Parse's reader does, plainly; and the shape of its memory. The library's functions that asm.Parse calls, at the texts it hands them: strings.Trim, Split, IndexByte, HasSuffix, IndexAny. The walks of asm.Parse's reader: next, named, reg, counted. The walks of asm.Parse's reader: named, reg, counted, csr. The walks of asm.Parse's reader: place; and asm.ordered. -/
import Derived.Test.YteidojpklpfdeaaDoorME
import Derived.Test.YteidojpklpfdeaaDoorShelf
import Derived.Test.YteidojpklpfdeaaDoorMB
import Derived.Lib.SlTrimSet
import Derived.Lib.IndexAny
import Derived.Lib.Split
import Derived.Deep.CutBlock
import Derived.Deep.DeepCutAuto
import Derived.Shelf.Strings.SlTrimAscii
import Derived.Lib.IndexLaws
/- The walk of asm.join. -/
namespace Go.Proofs.YteidojpklpfdeaaDoor
open Go.RowKit
attribute [local go_sem] setCell_drewN alloc_drewN
set_option linter.unusedVariables false
set_option linter.unusedSimpArgs false

theorem join_lib : ∀ ps : List (List UInt8), Lib.join ps [44] = joinL ps
  | [] => rfl
  | [a] => by simp [Lib.join, joinL, List.intercalate]
  | a :: b :: l => by
    have ih := join_lib (b :: l)
    unfold Lib.join at ih ⊢
    rw [joinL, ← ih]
    simp [List.intercalate]

theorem join_call (ps : List (List UInt8)) (bk c : Nat) (w : World) (hc : ∀ j p, ps[j]? = some p → w.cell? ⟨bk, j, none⟩ = some (.string ⟨p.toArray⟩)) (hbk : bk < w.heap.size) (hcap : ps.length ≤ c) (h3 : ps.length ≤ 3) (hj : (joinL ps).length ≤ 1000) :
    Calls Tryd.prog 74 #[.slice (some ⟨bk, 0, none⟩) ps.length c, .string ⟨#[44]⟩] w fun e w' => e = .returned (.string ⟨(joinL ps).toArray⟩) ∧ Below w.heap.size w w' := by
  have hm : (ps.map fun p => (⟨p.toArray⟩ : ByteArray)).map (·.data.toList) = ps := by
    rw [List.map_map]; conv => rhs; rw [← List.map_id ps]
    rfl
  have hl : (ps.map fun p => (⟨p.toArray⟩ : ByteArray)).length = ps.length := List.length_map _
  have h := Tryd.strings_Join bk 0 c (ps.map fun p => (⟨p.toArray⟩ : ByteArray)) ⟨#[44]⟩ w (by
    intro j x hx
    rw [List.getElem?_map] at hx
    obtain ⟨p, hp, rfl⟩ := Option.map_eq_some_iff.1 hx
    rw [Nat.zero_add]
    exact hc j p hp) hbk (by rw [hl]; omega) (by rw [hl]; exact hcap) (by rw [hm]; show (Lib.join ps [44]).length ≤ _; rw [join_lib]; omega)
  rw [hl, hm] at h
  have e : Lib.join ps (⟨#[44]⟩ : ByteArray).data.toList = joinL ps := join_lib ps
  rw [e] at h
  exact h

set_option maxHeartbeats 1000000 in
theorem join_any (nm : List UInt8) (ps : List (List UInt8)) (bk c : Nat) (w : World) (hc : ∀ j p, ps[j]? = some p → w.cell? ⟨bk, j, none⟩ = some (.string ⟨p.toArray⟩)) (hbk : bk < w.heap.size) (hcap : ps.length ≤ c) (h1 : 1 ≤ ps.length) (h3 : ps.length ≤ 3) (hj : (joinL ps).length ≤ 1000) (hn : nm.length ≤ 1000) :
    Calls Tryd.prog 35 #[.string ⟨nm.toArray⟩, .slice (some ⟨bk, 0, none⟩) ps.length c] w fun e w' => e = .returned (.string ⟨(nm ++ 32 :: joinL ps).toArray⟩) ∧ Below w.heap.size w w' := by
  have HJ := hid (join_call ps bk c w hc hbk hcap h3 hj)
  have hne : ((ps.length : Int) == 0) = false := by simp; intro h; rw [h] at h1; simp at h1
  clear hc
  generalize hjj : joinL ps = jj at *
  generalize ps.length = n at *
  go_enter Tryd.func35, Tryd.ntmps35
  go_wp2_with (go_at_call 74; refine (HJ.out).mono ?_; rintro e w' ⟨rfl, hb⟩)
  go_ret
  refine ⟨ret_string ?_, hb⟩
  rw [show (⟨#[32]⟩ : ByteArray) = ⟨([32] : List UInt8).toArray⟩ from rfl, ByteArray.mk_append_mk, ByteArray.mk_append_mk]
  simp

end Go.Proofs.YteidojpklpfdeaaDoor

/- What asm.Parse's reader does, plainly; and the shape of its memory. -/
namespace Go.Proofs.YteidojpklpfdeaaDoor
open Go.RowKit
attribute [local go_sem] setCell_drewN alloc_drewN
set_option linter.unusedVariables false
set_option linter.unusedSimpArgs false

/-- Without blanks at the ends. -/
def trimT (l : List UInt8) : List UInt8 := Lib.trimS l [32, 9]

/-- A reader: what is still to be read, and whether something was wrong. -/
structure Rd where
  list : List (List UInt8)
  bad : Bool

def nextR (r : Rd) : List UInt8 × Rd := match r.list with
  | [] => ([], ⟨[], true⟩)
  | a :: l => (trimT a, ⟨l, r.bad⟩)

def regNo (s : List UInt8) : Option Nat := (List.range 32).find? (fun n => s == regS (n : Int))
def namedR (s : List UInt8) (r : Rd) : Int × Rd := match regNo s with
  | some n => ((n : Int), r)
  | none => (0, ⟨r.list, true⟩)
def regR (r : Rd) : Int × Rd := namedR (nextR r).1 (nextR r).2
def countedR (s : List UInt8) (r : Rd) : Int × Rd := ((parseI s).getD 0, ⟨r.list, r.bad || !(parseI s).isSome⟩)
def numR (r : Rd) : Int × Rd := countedR (nextR r).1 (nextR r).2
def csrR (r : Rd) : Int × Rd := if (numR r).1 < 0 ∨ 4095 < (numR r).1 then (0, ⟨(numR r).2.list, true⟩) else numR r

/-- All blocks but one are as they were. -/
structure Only (R : Nat) (w w' : World) : Prop where
  os : w'.os = w.os
  tape : w'.tape = w.tape
  output : w'.output = w.output
  size : w.heap.size ≤ w'.heap.size
  block : ∀ k, k < w.heap.size → k ≠ R → w'.heap[k]? = w.heap[k]?

theorem Only.refl (R : Nat) (w : World) : Only R w w := ⟨rfl, rfl, rfl, Nat.le_refl _, fun _ _ _ => rfl⟩
theorem Only.trans {R : Nat} {a b c : World} (h : Only R a b) (k : Only R b c) : Only R a c :=
  ⟨k.os.trans h.os, k.tape.trans h.tape, k.output.trans h.output, Nat.le_trans h.size k.size, fun i hi hn => (k.block i (Nat.lt_of_lt_of_le hi h.size) hn).trans (h.block i hi hn)⟩
theorem Only.of_below {R : Nat} {a b : World} (h : Below a.heap.size a b) : Only R a b := ⟨h.os, h.tape, h.output, h.size, fun k hk _ => h.block k hk⟩
theorem Only.alloc {R : Nat} {a b : World} (h : Only R a b) (o : Obj) : Only R a (b.alloc o) := h.trans (.of_below ((Below.refl _ _).alloc (Nat.le_refl _) o))
theorem Only.drewN {R : Nat} {a b : World} (h : Only R a b) (n : Nat) : Only R a (b.drewN n) := h.trans (.of_below (bel_drewN (Below.refl _ _)))
theorem Only.drew {R : Nat} {a b : World} (h : Only R a b) : Only R a b.drew := h.trans (.of_below ((Below.refl _ _).drew))
theorem Only.setCell {R : Nat} {a b : World} (h : Only R a b) (j : Nat) (u : Value) : Only R a (b.setCell ⟨R, j, none⟩ u) :=
  h.trans ⟨rfl, rfl, rfl, by simp [World.setCell], fun k _ hk => Below.heap_setCell _ _ _ _ hk⟩
theorem Only.below {R B : Nat} {a b : World} (h : Only R a b) (hB : B ≤ R) (hs : B ≤ a.heap.size) : Below B a b := ⟨h.os, h.tape, h.output, h.size, fun k hk => h.block k (by omega) (by omega)⟩
theorem Only.cell {R : Nat} {w w' : World} (h : Only R w w') {p : Addr} (hp : p.block < w.heap.size) (hn : p.block ≠ R) : w'.cell? p = w.cell? p := World.cell?_of_block (w := w) (h.block p.block hp hn)

theorem two_cell0 {w : World} {b : Nat} {v u : Value} {t : TypeId} (h : w.heap[b]? = some (.cells #[v, u] t (0, 0))) : w.cell? ⟨b, 0, none⟩ = some v := by simp [World.cell?, h]
theorem two_cell1 {w : World} {b : Nat} {v u : Value} {t : TypeId} (h : w.heap[b]? = some (.cells #[v, u] t (0, 0))) : w.cell? ⟨b, 1, none⟩ = some u := by simp [World.cell?, h]
theorem two_free {w : World} {b : Nat} {v u : Value} {t : TypeId} (h : w.heap[b]? = some (.cells #[v, u] t (0, 0))) (j : Nat) : w.frozen? ⟨b, j, none⟩ = false := by simp [World.frozen?, h]
theorem blk_lt {w : World} {b : Nat} {o : Obj} (h : w.heap[b]? = some o) : b < w.heap.size := by
  rcases Nat.lt_or_ge b w.heap.size with h' | h'
  · exact h'
  · simp [Array.getElem?_eq_none h'] at h
theorem two_set0 {w : World} {b : Nat} {v u x : Value} {t : TypeId} (h : w.heap[b]? = some (.cells #[v, u] t (0, 0))) : (w.setCell ⟨b, 0, none⟩ x).heap[b]? = some (.cells #[x, u] t (0, 0)) := by
  have hlt := blk_lt h
  have h' : w.heap[b] = .cells #[v, u] t (0, 0) := by simpa [Array.getElem?_eq_getElem hlt] using h
  show (w.heap.modify b _)[b]? = _
  rw [Array.getElem?_eq_getElem (by simpa using hlt), Array.getElem_modify_self, h']
  rfl
theorem two_set1 {w : World} {b : Nat} {v u x : Value} {t : TypeId} (h : w.heap[b]? = some (.cells #[v, u] t (0, 0))) : (w.setCell ⟨b, 1, none⟩ x).heap[b]? = some (.cells #[v, x] t (0, 0)) := by
  have hlt := blk_lt h
  have h' : w.heap[b] = .cells #[v, u] t (0, 0) := by simpa [Array.getElem?_eq_getElem hlt] using h
  show (w.heap.modify b _)[b]? = _
  rw [Array.getElem?_eq_getElem (by simpa using hlt), Array.getElem_modify_self, h']
  rfl

/-- A slice of texts, as it lies in memory. -/
def TextsAt (w : World) (v : Value) (l : List (List UInt8)) : Prop :=
  (l = [] ∧ ∃ p c, v = .slice p 0 c) ∨ ∃ L off c cs, v = .slice (some ⟨L, off, none⟩) l.length c ∧ w.heap[L]? = some (.cells cs 9 (0, 0)) ∧ 0 < l.length ∧ l.length ≤ c ∧ c ≤ 9223372036854775807 ∧ ∀ (j : Nat) p, l[j]? = some p → p.length < 4294967281 ∧ cs[off + j]? = some (.string ⟨p.toArray⟩)

/-- A reader, as it lies in memory. -/
def RdAt (w : World) (R : Nat) (r : Rd) : Prop := ∃ v, w.heap[R]? = some (.cells #[v, .bool r.bad] 82 (0, 0)) ∧ TextsAt w v r.list

theorem TextsAt.move {w w' : World} {v : Value} {l : List (List UInt8)} (h : TextsAt w v l) (hm : ∀ (k : Nat) (cs : Array Value), w.heap[k]? = some (Obj.cells cs 9 (0, 0)) → w'.heap[k]? = w.heap[k]?) : TextsAt w' v l := by
  rcases h with h | ⟨L, off, c, cs, e, h1, h3, h4, h5, h6⟩
  · exact .inl h
  · exact .inr ⟨L, off, c, cs, e, (hm L cs h1).trans h1, h3, h4, h5, h6⟩

theorem TextsAt.only {w w' : World} {R : Nat} {v : Value} {l : List (List UInt8)} {cr : Array Value} (h : TextsAt w v l) (hR : w.heap[R]? = some (.cells cr 82 (0, 0))) (ho : Only R w w') : TextsAt w' v l :=
  h.move fun k cs hk => ho.block k (blk_lt hk) (by rintro rfl; rw [hR] at hk; cases hk)

/-- What a reader's walk comes to. -/
def RdPost (R : Nat) (w : World) (v : Value) (r' : Rd) (e : Ending) (w' : World) : Prop := e = .returned v ∧ RdAt w' R r' ∧ Only R w w'

end Go.Proofs.YteidojpklpfdeaaDoor

/- The library's functions that asm.Parse calls, at the texts it hands them: strings.Trim, Split, IndexByte, HasSuffix, IndexAny. -/
namespace Go.Proofs.YteidojpklpfdeaaDoor
open Go.RowKit
attribute [local go_sem] setCell_drewN alloc_drewN
set_option linter.unusedVariables false
set_option linter.unusedSimpArgs false

theorem ba_data (l : List UInt8) : (⟨l.toArray⟩ : ByteArray).data.toList = l := by simp
theorem ba_size (l : List UInt8) : (⟨l.toArray⟩ : ByteArray).size = l.length := by simp [ByteArray.size]
theorem ba_eta (s : ByteArray) : s = ⟨s.data.toList.toArray⟩ := by cases s; simp

theorem trim_any (l : List UInt8) (w : World) (hl : l.length < 4294967281) :
    Calls Tryd.prog 46 #[.string ⟨l.toArray⟩, .string ⟨#[32, 9]⟩] w fun e w' => e = .returned (.string ⟨(trimT l).toArray⟩) ∧ Below w.heap.size w w' := by
  have h := Any.strings_Trim_laid Tryd.lays160 (by kernel_rfl) ⟨l.toArray⟩ ⟨#[32, 9]⟩ w (by rw [ba_size]; omega) (by decide) (ascii_of_all (by decide))
  rw [ba_data] at h
  exact h

theorem split_any (s : ByteArray) (w : World) (hs : s.size < 4294967281) :
    Calls Tryd.prog 50 #[.string s, .string ⟨#[44]⟩] w fun e w' => e = .returned (.slice (some ⟨w.heap.size, 0, none⟩) (Lib.countB s ⟨#[44]⟩ + 1 : Nat) (Lib.countB s ⟨#[44]⟩ + 1))
      ∧ w' = w.alloc (.cells ((Lib.splitB ⟨#[44]⟩ 0 (Lib.countB s ⟨#[44]⟩) s).map Value.string).toArray 9) := by
  have h1 : 1 ≤ (⟨#[44]⟩ : ByteArray).size := by decide
  have hle := Lib.countB_le ⟨#[44]⟩ h1 s.size s (Nat.le_refl _)
  have hlen := Lib.splitB_all ⟨#[44]⟩ h1 0 _ s rfl
  have hI : ∀ (x : ByteArray) (c : Array Value), x.size ≤ s.size → Calls Tryd.prog 115 #[.string x, .string ⟨#[44]⟩] (w.alloc (.cells c 9)) fun e w' => e = .returned (.int .i64 (Lib.indexB x ⟨#[44]⟩)) ∧ w' = w.alloc (.cells c 9) := by
    intro x c hx
    refine (Tryd.strings_Index_one x 44 _).mono fun e w' ⟨h1, h2⟩ => ⟨?_, h2⟩
    rw [h1]
    show _ = Ending.returned (Value.int .i64 (Lib.index x.data.toList [44]))
    rw [Lib.index_one]
  have hC : Calls Tryd.prog 114 #[.string s, .string ⟨#[44]⟩] w fun e w' => e = .returned (.int .i64 (Lib.countB s ⟨#[44]⟩)) ∧ w' = w := by
    refine (Any.strings_Count_one (L := { Tryd.lays146 with }) s 44 w).mono fun e w' ⟨he, hw⟩ => ⟨?_, hw⟩
    rw [he]
    show _ = Ending.returned (Value.int .i64 ((Lib.count s.data.toList [44] : Nat) : Int))
    rw [Lib.count_one]
    rfl
  have c := Any.strings_genSplit_core (L := { Tryd.lays146 with }) (by kernel_rfl) s ⟨#[44]⟩ 0 (-1) (Lib.countB s ⟨#[44]⟩ + 1) w hs h1 (Nat.zero_le _) hI hC (by decide) (by decide) (by rw [if_pos (by decide)]; omega)
  rw [Nat.add_sub_cancel, hlen] at c
  have e2 : Lib.cellsOf (Lib.splitB ⟨#[44]⟩ 0 (Lib.countB s ⟨#[44]⟩) s) (Lib.countB s ⟨#[44]⟩ + 1) = ((Lib.splitB ⟨#[44]⟩ 0 (Lib.countB s ⟨#[44]⟩) s).map Value.string).toArray := by rw [← hlen]; exact Lib.cellsOf_full _
  rw [e2] at c
  have HC := hid c
  clear c e2 hI hC hle hlen h1
  go_enter Tryd.func50, Tryd.ntmps50
  go_wp2_with (go_at_call 86; refine (HC.out).mono ?_; rintro e w' ⟨rfl, hw⟩; rw [hw])
  go_ret
  exact ⟨rfl, rfl⟩

end Go.Proofs.YteidojpklpfdeaaDoor

/- The walks of asm.Parse's reader: next, named, reg, counted. -/
namespace Go.Proofs.YteidojpklpfdeaaDoor
open Go.RowKit
attribute [local go_sem] setCell_drewN alloc_drewN
set_option linter.unusedVariables false
set_option linter.unusedSimpArgs false

set_option maxHeartbeats 1000000 in
theorem next_none (R : Nat) (b : Bool) (p : Option Addr) (c : Nat) (w : World) (h : w.heap[R]? = some (.cells #[.slice p 0 c, .bool b] 82 (0, 0))) :
    Calls Tryd.prog 89 #[.pointer (some ⟨R, 0, none⟩)] w fun e w' => e = .returned (.string ⟨#[]⟩) ∧ w' = w.setCell ⟨R, 1, none⟩ (.bool true) := by
  have c0 := two_cell0 h
  have c1 := two_cell1 h
  have f1 := two_free h 1
  clear h
  go_enter Tryd.func89, Tryd.ntmps89
  go_wp2_with fail
  go_ret
  exact ⟨rfl, rfl⟩

set_option maxHeartbeats 1000000 in
theorem next_some (R L off c : Nat) (b : Bool) (n : Nat) (a : List UInt8) (w : World) (h : w.heap[R]? = some (.cells #[.slice (some ⟨L, off, none⟩) (n + 1 : Nat) c, .bool b] 82 (0, 0))) (hc : n + 1 ≤ c) (hc1 : c ≠ 1) (hc2 : c ≤ 9223372036854775807) (ha : w.cell? ⟨L, off, none⟩ = some (.string ⟨a.toArray⟩))
    (HT : ∀ w, Calls Tryd.prog 46 #[.string ⟨a.toArray⟩, .string ⟨#[32, 9]⟩] w fun e w' => e = .returned (.string ⟨(trimT a).toArray⟩) ∧ Below w.heap.size w w') :
    Calls Tryd.prog 89 #[.pointer (some ⟨R, 0, none⟩)] w fun e w' => e = .returned (.string ⟨(trimT a).toArray⟩) ∧ ∃ w1, Below w.heap.size w w1 ∧ w' = w1.setCell ⟨R, 0, none⟩ (.slice (some ⟨L, off + 1, none⟩) n (c - 1)) := by
  have c0 := two_cell0 h
  have c1 := two_cell1 h
  have H := hid HT
  have HH := hid h
  clear h HT
  go_enter Tryd.func89, Tryd.ntmps89
  go_wp2_with fail
  refine (H.out _).mono ?_
  rintro e w1 ⟨rfl, hb⟩
  have hlt := blk_lt HH.out
  have h1 := (hb.block R hlt).trans HH.out
  have d0 := two_cell0 h1
  have f0 := two_free h1 0
  have HB := hid hb
  clear hb h1 c0 c1 ha
  go_wp2_with fail
  go_ret
  exact ⟨rfl, w1, HB.out, rfl⟩


set_option maxHeartbeats 1000000 in
theorem next_last (R L off : Nat) (b : Bool) (a : List UInt8) (w : World) (h : w.heap[R]? = some (.cells #[.slice (some ⟨L, off, none⟩) 1 1, .bool b] 82 (0, 0))) (ha : w.cell? ⟨L, off, none⟩ = some (.string ⟨a.toArray⟩))
    (HT : ∀ w, Calls Tryd.prog 46 #[.string ⟨a.toArray⟩, .string ⟨#[32, 9]⟩] w fun e w' => e = .returned (.string ⟨(trimT a).toArray⟩) ∧ Below w.heap.size w w') :
    Calls Tryd.prog 89 #[.pointer (some ⟨R, 0, none⟩)] w fun e w' => e = .returned (.string ⟨(trimT a).toArray⟩) ∧ ∃ w1, Below w.heap.size w w1 ∧ w' = w1.setCell ⟨R, 0, none⟩ (.slice (some ⟨L, off, none⟩) 0 0) := by
  have c0 := two_cell0 h
  have c1 := two_cell1 h
  have H := hid HT
  have HH := hid h
  clear h HT
  go_enter Tryd.func89, Tryd.ntmps89
  go_wp2_with fail
  refine (H.out _).mono ?_
  rintro e w1 ⟨rfl, hb⟩
  have hlt := blk_lt HH.out
  have h1 := (hb.block R hlt).trans HH.out
  have d0 := two_cell0 h1
  have f0 := two_free h1 0
  have HB := hid hb
  clear hb h1 c0 c1 ha
  go_wp2_with fail
  go_ret
  exact ⟨rfl, w1, HB.out, rfl⟩

theorem next_any (R : Nat) (r : Rd) (w : World) (h : RdAt w R r) :
    Calls Tryd.prog 89 #[.pointer (some ⟨R, 0, none⟩)] w (RdPost R w (.string ⟨(nextR r).1.toArray⟩) (nextR r).2) := by
  obtain ⟨v, hh, ht⟩ := h
  obtain ⟨l, b⟩ := r
  rcases ht with ⟨hl, p, c, rfl⟩ | ⟨L, off, c, cs, rfl, h1, h3, h4, h5, h6⟩
  · dsimp only at hl; subst hl
    refine (next_none R b p c w hh).mono fun e w' ⟨he, hw⟩ => ?_
    subst hw
    exact ⟨he, ⟨_, two_set1 hh, .inl ⟨rfl, p, c, rfl⟩⟩, (Only.refl _ _).setCell _ _⟩
  · dsimp only at h3 h4 h6 hh ⊢
    match l, h3, h4, h6 with
    | a :: t, h3, h4, h6 =>
      have ha0 := h6 0 a rfl
      have HT := fun w => trim_any a w ha0.1
      have ha : w.cell? ⟨L, off, none⟩ = some (.string ⟨a.toArray⟩) := by have := ha0.2; simp only [Nat.add_zero] at this; simp [World.cell?, h1, this]
      have key : ∀ (w1 : World) (x : Value), Below w.heap.size w w1 → TextsAt w x t → RdAt (w1.setCell ⟨R, 0, none⟩ x) R ⟨t, b⟩ ∧ Only R w (w1.setCell ⟨R, 0, none⟩ x) := by
        intro w1 x hb hx
        have hR : w1.heap[R]? = _ := (hb.block R (blk_lt hh)).trans hh
        have ho : Only R w (w1.setCell ⟨R, 0, none⟩ x) := (Only.of_below hb).setCell _ _
        exact ⟨⟨x, two_set0 hR, hx.only hh ho⟩, ho⟩
      by_cases hc1 : c = 1
      · subst hc1
        have ht0 : t = [] := by cases t with | nil => rfl | cons x y => simp at h4
        subst ht0
        refine (next_last R L off b a w hh ha HT).mono fun e w' ⟨he, w1, hb, hw⟩ => ?_
        subst hw
        obtain ⟨k1, k2⟩ := key w1 _ hb (.inl ⟨rfl, _, _, rfl⟩)
        exact ⟨he, k1, k2⟩
      · refine (next_some R L off c b t.length a w hh h4 hc1 h5 ha HT).mono fun e w' ⟨he, w1, hb, hw⟩ => ?_
        subst hw
        have hx : TextsAt w (.slice (some ⟨L, off + 1, none⟩) t.length (c - 1)) t := by
          by_cases ht0 : t = []
          · subst ht0; exact .inl ⟨rfl, _, _, rfl⟩
          · refine .inr ⟨L, off + 1, c - 1, cs, rfl, h1, List.length_pos_iff.2 ht0, by simp at h4; omega, by omega, fun j p hj => ?_⟩
            have := h6 (j + 1) p hj
            rw [show off + (j + 1) = off + 1 + j by omega] at this
            exact this
        obtain ⟨k1, k2⟩ := key w1 _ hb hx
        exact ⟨he, k1, k2⟩

end Go.Proofs.YteidojpklpfdeaaDoor

/- The walks of asm.Parse's reader: named, reg, counted, csr. -/
namespace Go.Proofs.YteidojpklpfdeaaDoor
open Go.RowKit
attribute [local go_sem] setCell_drewN alloc_drewN
set_option linter.unusedVariables false
set_option linter.unusedSimpArgs false

def NamePost (R : Nat) (s : List UInt8) (w : World) (e : Ending) (w' : World) : Prop :=
  (∃ n : Nat, regNo s = some n ∧ e = .returned (.int .i64 n) ∧ w = w') ∨ (regNo s = none ∧ e = .returned (.int .i64 0) ∧ w' = w.setCell ⟨R, 1, none⟩ (.bool true))

theorem regNo_some (s : List UInt8) (k : Nat) (hk : k < 32) (hno : ∀ j : Nat, j < k → (s == regS (j : Int)) = false) (h : (s == regS (k : Int)) = true) : regNo s = some k := by
  unfold regNo
  rw [List.find?_range_eq_some]
  refine ⟨h, by simpa using hk, fun j hj => by rw [hno j hj]; rfl⟩
theorem regNo_none (s : List UInt8) (hno : ∀ j : Nat, j < 32 → (s == regS (j : Int)) = false) : regNo s = none := by
  unfold regNo
  rw [List.find?_range_eq_none]
  intro j hj
  rw [hno j hj]; rfl

set_option maxHeartbeats 1000000 in
theorem named_walk (R : Nat) (s : List UInt8) (v : Value) (b : Bool) (w : World) (h : w.heap[R]? = some (.cells #[v, .bool b] 82 (0, 0))) :
    Calls Tryd.prog 116 #[.pointer (some ⟨R, 0, none⟩), .string ⟨s.toArray⟩] w (NamePost R s w) := by
  have c1 := two_cell1 h
  have f1 := two_free h 1
  clear h
  go_enter Tryd.func116, Tryd.ntmps116
  go_wp2
  go_loopw [6] (fun i wr => ∃ k : Nat, k ≤ 32 ∧ i = .int .i64 k ∧ (∀ j : Nat, j < k → (s == regS (j : Int)) = false) ∧ w = wr) (fun i _ => 32 - (intOf i).toNat)
  case atStart => exact ⟨0, by omega, rfl, fun j hj => by omega, rfl⟩
  case round =>
    obtain ⟨k, hk, rfl, hno, rfl⟩ := hrel
    have HNO := hid hno; clear hno
    by_cases hlt : k < 32
    · have HR := hid (fun w => reg_text (k : Int) w (by omega) (by omega))
      generalize hrs : regS (k : Int) = rs at *
      have HRS := hid hrs; clear hrs
      cases hb : s == rs with
      | true =>
        go_wp2_with (go_at_call 22; refine (HR.out _).mono ?_; rintro e w' ⟨rfl, rfl⟩)
        go_ret
        exact .inl ⟨k, regNo_some s k hlt HNO.out (by rw [HRS.out]; exact hb), rfl, rfl⟩
      | false =>
        go_wp2_with (go_at_call 22; refine (HR.out _).mono ?_; rintro e w' ⟨rfl, rfl⟩)
        go_roundw
        case rel =>
          refine ⟨k + 1, by omega, by go_num, fun j hj => ?_, by simp⟩
          by_cases e : j = k
          · rw [e, HRS.out]; exact hb
          · exact HNO.out j (by omega)
        case measure => simp [intOf]; omega
    · have e : k = 32 := by omega
      subst e
      go_wp2
      go_ret
      exact .inr ⟨regNo_none s HNO.out, rfl, rfl⟩

theorem named_any (R : Nat) (s : List UInt8) (r : Rd) (w : World) (h : RdAt w R r) :
    Calls Tryd.prog 116 #[.pointer (some ⟨R, 0, none⟩), .string ⟨s.toArray⟩] w (RdPost R w (.int .i64 (namedR s r).1) (namedR s r).2) := by
  obtain ⟨v, hh, ht⟩ := h
  refine (named_walk R s v r.bad w hh).mono fun e w' hp => ?_
  unfold namedR
  rcases hp with ⟨n, hn, he, rfl⟩ | ⟨hn, he, rfl⟩
  · rw [hn]
    exact ⟨he, ⟨v, hh, ht⟩, Only.refl _ _⟩
  · rw [hn]
    exact ⟨he, ⟨v, two_set1 hh, ht.only hh ((Only.refl _ _).setCell _ _)⟩, (Only.refl _ _).setCell _ _⟩

set_option maxHeartbeats 1000000 in
theorem reg_any' (R : Nat) (r : Rd) (w : World) (h : RdAt w R r) :
    Calls Tryd.prog 87 #[.pointer (some ⟨R, 0, none⟩)] w (RdPost R w (.int .i64 (regR r).1) (regR r).2) := by
  have HN := hid (next_any R r w h)
  have HM := hid (fun w1 h1 => named_any R (nextR r).1 (nextR r).2 w1 h1)
  have HE := hid (show regR r = namedR (nextR r).1 (nextR r).2 from rfl)
  generalize regR r = y at *
  generalize (nextR r).1 = s at *
  generalize (nextR r).2 = q at *
  generalize namedR s q = z at *
  obtain rfl := HE.out
  clear HE h
  go_enter Tryd.func87, Tryd.ntmps87
  go_wp2_with fail
  refine (HN.out).mono ?_
  rintro e w1 ⟨rfl, h1, ho1⟩
  have H1 := hid h1; have HO1 := hid ho1; clear h1 ho1
  go_wp2_with fail
  refine (HM.out _ H1.out).mono ?_
  rintro e w2 ⟨rfl, h2, ho2⟩
  have H2 := hid h2; have HO2 := hid ho2; clear h2 ho2
  go_wp2_with fail
  go_ret
  exact ⟨rfl, H2.out, HO1.out.trans HO2.out⟩

set_option maxHeartbeats 1000000 in
theorem counted_any (R : Nat) (s : List UInt8) (r : Rd) (w : World) (h : RdAt w R r) (hl : s.length < 4611686018427387904) :
    Calls Tryd.prog 88 #[.pointer (some ⟨R, 0, none⟩), .string ⟨s.toArray⟩] w (RdPost R w (.int .i64 (countedR s r).1) (countedR s r).2) := by
  have HP := hid (fun w => parseInt_any s w hl)
  have HE := hid (show countedR s r = ((parseI s).getD 0, ⟨r.list, r.bad || !(parseI s).isSome⟩) from rfl)
  obtain ⟨v, hh, ht⟩ := h
  obtain ⟨l, b⟩ := r
  dsimp only at hh ht HE
  generalize countedR s ⟨l, b⟩ = y at *
  generalize (parseI s).getD 0 = n at *
  generalize (parseI s).isSome = ok at *
  obtain rfl := HE.out
  clear HE
  have HH := hid hh; clear hh
  have HT := hid ht; clear ht
  have c1 := two_cell1 HH.out
  have f1 := two_free HH.out 1
  cases b <;> cases ok
  all_goals
    go_enter Tryd.func88, Tryd.ntmps88
    go_wp2_with fail
    refine (HP.out _).mono ?_
    rintro e w1 ⟨rfl, k, rfl⟩
    go_wp2_with fail
    go_ret
    exact ⟨rfl, ⟨v, two_set1 HH.out, HT.out.only HH.out (((Only.refl _ _).setCell _ _).drewN _)⟩, ((Only.refl _ _).setCell _ _).drewN _⟩


theorem nextR_len (r : Rd) (h : ∀ p ∈ r.list, p.length < 4294967281) : (nextR r).1.length < 4294967281 := by
  obtain ⟨l, b⟩ := r
  cases l with
  | nil => simp [nextR]
  | cons a t =>
    have := h a List.mem_cons_self
    show (trimT a).length < _
    have h2 : (trimT a).length ≤ a.length := by
      unfold trimT Lib.trimS Lib.trimLeftS Lib.trimRightS
      refine Nat.le_trans (List.dropWhile_sublist _).length_le ?_
      rw [List.length_reverse]
      refine Nat.le_trans (List.dropWhile_sublist _).length_le ?_
      simp
    omega
theorem rdAt_len {w : World} {R : Nat} {r : Rd} (h : RdAt w R r) : ∀ p ∈ r.list, p.length < 4294967281 := by
  obtain ⟨v, hh, ht⟩ := h
  intro p hp
  rcases ht with ⟨hl, _⟩ | ⟨L, off, c, cs, e, h1, h3, h4, h5, h6⟩
  · rw [hl] at hp; cases hp
  · obtain ⟨j, hj⟩ := List.getElem?_of_mem hp
    exact (h6 j p hj).1

set_option maxHeartbeats 1000000 in
theorem csr_any' (R : Nat) (r : Rd) (w : World) (h : RdAt w R r) :
    Calls Tryd.prog 91 #[.pointer (some ⟨R, 0, none⟩)] w (RdPost R w (.int .i64 (csrR r).1) (csrR r).2) := by
  have HN := hid (next_any R r w h)
  have hl := nextR_len r (rdAt_len h)
  have HM := hid (fun w1 h1 => counted_any R (nextR r).1 (nextR r).2 w1 h1 (by omega))
  have HE := hid (show csrR r = if (countedR (nextR r).1 (nextR r).2).1 < 0 ∨ 4095 < (countedR (nextR r).1 (nextR r).2).1 then (0, ⟨(countedR (nextR r).1 (nextR r).2).2.list, true⟩) else countedR (nextR r).1 (nextR r).2 from rfl)
  clear hl h
  generalize csrR r = y at *
  generalize (nextR r).1 = s at *
  generalize (nextR r).2 = q at *
  generalize countedR s q = z at *
  obtain ⟨n, q2⟩ := z
  dsimp only at *
  by_cases h0 : n < 0
  · obtain rfl := HE.out.trans (if_pos (.inl h0))
    clear HE
    go_enter Tryd.func91, Tryd.ntmps91
    go_wp2_with fail
    refine (HN.out).mono ?_
    rintro e w1 ⟨rfl, h1, ho1⟩
    have H1 := hid h1; have HO1 := hid ho1; clear h1 ho1
    go_wp2_with fail
    refine (HM.out _ H1.out).mono ?_
    rintro e w2 ⟨rfl, ⟨v2, hh2, ht2⟩, ho2⟩
    have c1 := two_cell1 hh2
    have f1 := two_free hh2 1
    have H2 := hid hh2; have HT2 := hid ht2; have HO2 := hid ho2; clear hh2 ht2 ho2
    go_wp2_with fail
    go_ret
    exact ⟨rfl, ⟨v2, two_set1 H2.out, HT2.out.only H2.out ((Only.refl _ _).setCell _ _)⟩, HO1.out.trans (HO2.out.trans ((Only.refl _ _).setCell _ _))⟩
  · by_cases h1 : 4095 < n
    · obtain rfl := HE.out.trans (if_pos (.inr h1))
      clear HE
      go_enter Tryd.func91, Tryd.ntmps91
      go_wp2_with fail
      refine (HN.out).mono ?_
      rintro e w1 ⟨rfl, h1, ho1⟩
      have H1 := hid h1; have HO1 := hid ho1; clear h1 ho1
      go_wp2_with fail
      refine (HM.out _ H1.out).mono ?_
      rintro e w2 ⟨rfl, ⟨v2, hh2, ht2⟩, ho2⟩
      have c1 := two_cell1 hh2
      have f1 := two_free hh2 1
      have H2 := hid hh2; have HT2 := hid ht2; have HO2 := hid ho2; clear hh2 ht2 ho2
      go_wp2_with fail
      go_ret
      exact ⟨rfl, ⟨v2, two_set1 H2.out, HT2.out.only H2.out ((Only.refl _ _).setCell _ _)⟩, HO1.out.trans (HO2.out.trans ((Only.refl _ _).setCell _ _))⟩
    · obtain rfl := HE.out.trans (if_neg (by omega))
      clear HE
      go_enter Tryd.func91, Tryd.ntmps91
      go_wp2_with fail
      refine (HN.out).mono ?_
      rintro e w1 ⟨rfl, h1, ho1⟩
      have H1 := hid h1; have HO1 := hid ho1; clear h1 ho1
      go_wp2_with fail
      refine (HM.out _ H1.out).mono ?_
      rintro e w2 ⟨rfl, h2, ho2⟩
      have H2 := hid h2; have HO2 := hid ho2; clear h2 ho2
      go_wp2_with fail
      go_ret
      exact ⟨rfl, H2.out, HO1.out.trans HO2.out⟩

end Go.Proofs.YteidojpklpfdeaaDoor

/- The walks of asm.Parse's reader: place; and asm.ordered. -/
namespace Go.Proofs.YteidojpklpfdeaaDoor
open Go.RowKit
attribute [local go_sem] setCell_drewN alloc_drewN
set_option linter.unusedVariables false
set_option linter.unusedSimpArgs false

theorem RdAt.below {w w' : World} {R : Nat} {r : Rd} (h : RdAt w R r) (hb : Below w.heap.size w w') : RdAt w' R r := by
  obtain ⟨v, hh, ht⟩ := h
  exact ⟨v, (hb.block R (blk_lt hh)).trans hh, ht.only hh (Only.of_below hb)⟩

/-- Is there no place? (Where the bracket stands, that the last one closes, whether a number may stand ahead.) -/
def noPlace (bare : Bool) (s : List UInt8) : Prop := Lib.indexByte s 40 < 0 ∨ Lib.hasSuffix s [41] = false ∨ (bare = true ∧ 0 < Lib.indexByte s 40)
instance (bare : Bool) (s : List UInt8) : Decidable (noPlace bare s) := by unfold noPlace; infer_instance
/-- What stands ahead of the bracket; what stands in it. -/
def ahead (s : List UInt8) : List UInt8 := trimT (s.take (Lib.indexByte s 40).toNat)
def inside (s : List UInt8) : List UInt8 := trimT ((s.drop ((Lib.indexByte s 40).toNat + 1)).take (s.length - 1 - ((Lib.indexByte s 40).toNat + 1)))
def placeA (bare : Bool) (s : List UInt8) (q : Rd) : (Int × Int) × Rd :=
  if noPlace bare s then ((0, 0), ⟨q.list, true⟩)
  else if bare then ((0, (namedR (inside s) q).1), (namedR (inside s) q).2)
  else (((countedR (ahead s) q).1, (namedR (inside s) (countedR (ahead s) q).2).1), (namedR (inside s) (countedR (ahead s) q).2).2)
def placeR (bare : Bool) (r : Rd) : (Int × Int) × Rd := placeA bare (nextR r).1 (nextR r).2

theorem place_idx (s : List UInt8) (h0 : 0 ≤ Lib.indexByte s 40) (h1 : Lib.hasSuffix s [41] = true) : (Lib.indexByte s 40).toNat + 2 ≤ s.length := by
  obtain ⟨n, hn⟩ := Int.eq_ofNat_of_zero_le h0
  obtain ⟨h2, _⟩ := Lib.indexByte_some hn
  unfold Lib.hasSuffix at h1
  obtain ⟨t, ht⟩ := List.isSuffixOf_iff_suffix.1 h1
  obtain ⟨hlt, h3⟩ := List.getElem?_eq_some_iff.1 h2
  rw [hn]
  simp only [Int.toNat_natCast]
  have hl : s.length = t.length + 1 := by rw [← ht]; simp
  by_cases e : n = t.length
  · subst e
    exfalso
    have : s[t.length]? = some 41 := by rw [← ht]; simp
    rw [h2] at this
    cases this
  · omega

theorem extract_ba (l : List UInt8) (a b : Nat) : (⟨l.toArray⟩ : ByteArray).extract a b = ⟨((l.drop a).take (b - a)).toArray⟩ := by
  rw [ByteArray.extract_mk]

set_option maxHeartbeats 2000000 in
theorem place_bad (bare : Bool) (R : Nat) (r : Rd) (w : World) (h : RdAt w R r) (hb : noPlace bare (nextR r).1) :
    Calls Tryd.prog 90 #[.pointer (some ⟨R, 0, none⟩), .bool bare] w (RdPost R w (.tuple #[.int .i64 0, .int .i64 0]) ⟨(nextR r).2.list, true⟩) := by
  have HN := hid (next_any R r w h)
  have hl := nextR_len r (rdAt_len h)
  generalize (nextR r).1 = s at *
  generalize (nextR r).2 = q at *
  have HI := hid (fun w => Tryd.strings_IndexByte ⟨s.toArray⟩ 40 w)
  have HS := hid (fun w => Tryd.strings_HasSuffix ⟨s.toArray⟩ ⟨#[41]⟩ w (by rw [ba_size]; omega))
  rw [ba_data, show ((40 : Int).toNat.toUInt8) = 40 from rfl] at HI
  rw [ba_data, show (⟨#[41]⟩ : ByteArray).data.toList = [41] from rfl] at HS
  unfold noPlace at hb
  generalize Lib.indexByte s 40 = n at *
  generalize Lib.hasSuffix s [41] = sf at *
  clear h hl
  have core : ∀ (n0 : n < 0 ∨ (0 ≤ n ∧ sf = false) ∨ (0 < n ∧ sf = true ∧ bare = true)), Calls Tryd.prog 90 #[.pointer (some ⟨R, 0, none⟩), .bool bare] w (RdPost R w (.tuple #[.int .i64 0, .int .i64 0]) ⟨q.list, true⟩) := by
    clear hb
    intro hb
    rcases hb with h0 | ⟨h0, rfl⟩ | ⟨h0, rfl, rfl⟩
    · go_enter Tryd.func90, Tryd.ntmps90
      go_wp2_with fail
      refine (HN.out).mono ?_
      rintro e w1 ⟨rfl, ⟨v1, hh1, ht1⟩, ho1⟩
      have c1 := two_cell1 hh1
      have f1 := two_free hh1 1
      have H1 := hid hh1; have HT1 := hid ht1; have HO1 := hid ho1; clear hh1 ht1 ho1
      go_wp2_with fail
      refine (HI.out _).mono ?_
      rintro e w2 ⟨rfl, rfl⟩
      go_wp2_with fail
      go_ret2
      exact ⟨rfl, ⟨v1, two_set1 H1.out, HT1.out.only H1.out ((Only.refl _ _).setCell _ _)⟩, HO1.out.trans ((Only.refl _ _).setCell _ _)⟩
    · have h1 : ¬ n < 0 := by omega
      go_enter Tryd.func90, Tryd.ntmps90
      go_wp2_with fail
      refine (HN.out).mono ?_
      rintro e w1 ⟨rfl, ⟨v1, hh1, ht1⟩, ho1⟩
      have c1 := two_cell1 hh1
      have f1 := two_free hh1 1
      have H1 := hid hh1; have HT1 := hid ht1; have HO1 := hid ho1; clear hh1 ht1 ho1
      go_wp2_with fail
      refine (HI.out _).mono ?_
      rintro e w2 ⟨rfl, rfl⟩
      go_wp2_with fail
      refine (HS.out _).mono ?_
      rintro e w2 ⟨rfl, rfl⟩
      go_wp2_with fail
      go_ret2
      exact ⟨rfl, ⟨v1, two_set1 H1.out, HT1.out.only H1.out ((Only.refl _ _).setCell _ _)⟩, HO1.out.trans ((Only.refl _ _).setCell _ _)⟩
    · have h1 : ¬ n < 0 := by omega
      go_enter Tryd.func90, Tryd.ntmps90
      go_wp2_with fail
      refine (HN.out).mono ?_
      rintro e w1 ⟨rfl, ⟨v1, hh1, ht1⟩, ho1⟩
      have c1 := two_cell1 hh1
      have f1 := two_free hh1 1
      have H1 := hid hh1; have HT1 := hid ht1; have HO1 := hid ho1; clear hh1 ht1 ho1
      go_wp2_with fail
      refine (HI.out _).mono ?_
      rintro e w2 ⟨rfl, rfl⟩
      go_wp2_with fail
      refine (HS.out _).mono ?_
      rintro e w2 ⟨rfl, rfl⟩
      go_wp2_with fail
      go_ret2
      exact ⟨rfl, ⟨v1, two_set1 H1.out, HT1.out.only H1.out ((Only.refl _ _).setCell _ _)⟩, HO1.out.trans ((Only.refl _ _).setCell _ _)⟩
  refine core ?_
  rcases hb with h | h | ⟨h1, h2⟩
  · exact .inl h
  · by_cases h0 : n < 0
    · exact .inl h0
    · exact .inr (.inl ⟨by omega, h⟩)
  · cases hs : sf with
    | false => exact .inr (.inl ⟨by omega, rfl⟩)
    | true => exact .inr (.inr ⟨h2, rfl, h1⟩)

set_option maxHeartbeats 2000000 in
theorem place_bare (R : Nat) (r : Rd) (w : World) (h : RdAt w R r) (hb : ¬ noPlace true (nextR r).1) :
    Calls Tryd.prog 90 #[.pointer (some ⟨R, 0, none⟩), .bool true] w (RdPost R w (.tuple #[.int .i64 0, .int .i64 (namedR (inside (nextR r).1) (nextR r).2).1]) (namedR (inside (nextR r).1) (nextR r).2).2) := by
  have HN := hid (next_any R r w h)
  have hl := nextR_len r (rdAt_len h)
  generalize (nextR r).1 = s at *
  generalize (nextR r).2 = q at *
  have HI := hid (fun w => Tryd.strings_IndexByte ⟨s.toArray⟩ 40 w)
  have HS := hid (fun w => Tryd.strings_HasSuffix ⟨s.toArray⟩ ⟨#[41]⟩ w (by rw [ba_size]; omega))
  rw [ba_data, show ((40 : Int).toNat.toUInt8) = 40 from rfl] at HI
  rw [ba_data, show (⟨#[41]⟩ : ByteArray).data.toList = [41] from rfl] at HS
  have hnn : 0 ≤ Lib.indexByte s 40 := by unfold noPlace at hb; omega
  have hsf : Lib.hasSuffix s [41] = true := by
    cases hs : Lib.hasSuffix s [41] with
    | true => rfl
    | false => exact absurd (.inr (.inl hs)) hb
  have hn0 : Lib.indexByte s 40 ≤ 0 := by
    apply Classical.byContradiction
    intro hc
    exact hb (.inr (.inr ⟨rfl, by omega⟩))
  have hix := place_idx s hnn hsf
  rw [hsf] at HS
  have hz : Lib.indexByte s 40 = 0 := by omega
  rw [hz] at HI hix
  have HE := hid (show (⟨s.toArray⟩ : ByteArray).extract 1 (s.length - 1) = ⟨((s.drop 1).take (s.length - 1 - 1)).toArray⟩ from extract_ba s 1 (s.length - 1))
  have hl2 : ((s.drop 1).take (s.length - 1 - 1)).length < 4294967281 := by simp; omega
  have HD := hid (show inside s = trimT ((s.drop 1).take (s.length - 1 - 1)) by unfold inside; rw [hz]; rfl)
  generalize inside s = ins at *
  generalize (s.drop 1).take (s.length - 1 - 1) = mid at *
  have HT := hid (fun w => trim_any mid w hl2)
  rw [← HD.out] at HT
  have HM := hid (fun w1 h1 => named_any R ins q w1 h1)
  generalize namedR ins q = z at *
  have hlen : (2 : Int) ≤ (s.length : Int) := by simp at hix; omega
  have hlen2 : (s.length : Int) < 4294967281 := by omega
  clear h hb hnn hsf hn0 hix hz hl2 hl
  go_enter Tryd.func90, Tryd.ntmps90
  go_wp2_with fail
  refine (HN.out).mono ?_
  rintro e w1 ⟨rfl, h1, ho1⟩
  have H1 := hid h1; have HO1 := hid ho1; clear h1 ho1
  go_wp2_with fail
  refine (HI.out _).mono ?_
  rintro e w2 ⟨rfl, rfl⟩
  go_wp2_with fail
  refine (HS.out _).mono ?_
  rintro e w2 ⟨rfl, rfl⟩
  go_wp2_with fail
  rw [HE.out]
  refine (HT.out _).mono ?_
  rintro e w3 ⟨rfl, hb3⟩
  have H3 := hid (H1.out.below hb3); have HO3 := hid (Only.of_below (R := R) hb3); clear hb3
  go_wp2_with fail
  refine (HM.out _ H3.out).mono ?_
  rintro e w4 ⟨rfl, h4, ho4⟩
  have H4 := hid h4; have HO4 := hid ho4; clear h4 ho4
  go_wp2_with fail
  go_ret2
  exact ⟨rfl, H4.out, HO1.out.trans (HO3.out.trans HO4.out)⟩

set_option maxHeartbeats 2000000 in
set_option maxRecDepth 100000 in
theorem place_full (R : Nat) (r : Rd) (w : World) (h : RdAt w R r) (hb : ¬ noPlace false (nextR r).1) :
    Calls Tryd.prog 90 #[.pointer (some ⟨R, 0, none⟩), .bool false] w (RdPost R w (.tuple #[.int .i64 (countedR (ahead (nextR r).1) (nextR r).2).1, .int .i64 (namedR (inside (nextR r).1) (countedR (ahead (nextR r).1) (nextR r).2).2).1]) (namedR (inside (nextR r).1) (countedR (ahead (nextR r).1) (nextR r).2).2).2) := by
  have HN := hid (next_any R r w h)
  have hl := nextR_len r (rdAt_len h)
  generalize (nextR r).1 = s at *
  generalize (nextR r).2 = q at *
  have HI := hid (fun w => Tryd.strings_IndexByte ⟨s.toArray⟩ 40 w)
  have HS := hid (fun w => Tryd.strings_HasSuffix ⟨s.toArray⟩ ⟨#[41]⟩ w (by rw [ba_size]; omega))
  rw [ba_data, show ((40 : Int).toNat.toUInt8) = 40 from rfl] at HI
  rw [ba_data, show (⟨#[41]⟩ : ByteArray).data.toList = [41] from rfl] at HS
  have hnn : 0 ≤ Lib.indexByte s 40 := by unfold noPlace at hb; omega
  have hsf : Lib.hasSuffix s [41] = true := by
    cases hs : Lib.hasSuffix s [41] with
    | true => rfl
    | false => exact absurd (.inr (.inl hs)) hb
  have hix := place_idx s hnn hsf
  rw [hsf] at HS
  obtain ⟨n, hn⟩ := Int.eq_ofNat_of_zero_le hnn
  have HA := hid (show ahead s = trimT (s.take n) by unfold ahead; rw [hn]; rfl)
  have HD := hid (show inside s = trimT ((s.drop (n + 1)).take (s.length - 1 - (n + 1))) by unfold inside; rw [hn]; rfl)
  rw [hn] at HI hix
  simp only [Int.toNat_natCast] at hix
  have HE := hid (show (⟨s.toArray⟩ : ByteArray).extract (n + 1) (s.length - 1) = ⟨((s.drop (n + 1)).take (s.length - 1 - (n + 1))).toArray⟩ from extract_ba s _ _)
  have HF := hid (show (⟨s.toArray⟩ : ByteArray).extract 0 n = ⟨(s.take n).toArray⟩ from extract_ba s 0 n)
  have hl2 : ((s.drop (n + 1)).take (s.length - 1 - (n + 1))).length < 4294967281 := by simp; omega
  have hl3 : (s.take n).length < 4294967281 := by simp; omega
  have hl4 : (ahead s).length < 4294967281 := by
    rw [HA.out]
    unfold trimT Lib.trimS Lib.trimLeftS Lib.trimRightS
    refine Nat.lt_of_le_of_lt (List.dropWhile_sublist _).length_le ?_
    rw [List.length_reverse]
    refine Nat.lt_of_le_of_lt (List.dropWhile_sublist _).length_le ?_
    simpa using hl3
  generalize inside s = ins at *
  generalize ahead s = ahd at *
  generalize (s.drop (n + 1)).take (s.length - 1 - (n + 1)) = mid at *
  generalize s.take n = fore at *
  have HT := hid (fun w => trim_any mid w hl2)
  have HU := hid (fun w => trim_any fore w hl3)
  rw [← HD.out] at HT
  rw [← HA.out] at HU
  have HC := hid (fun w1 h1 => counted_any R ahd q w1 h1 (by omega))
  generalize countedR ahd q = y at *
  have HM := hid (fun w1 h1 => named_any R ins y.2 w1 h1)
  generalize namedR ins y.2 = z at *
  have hlen : (n : Int) ≤ (s.length : Int) := by omega
  have hlen0 : (0 : Int) ≤ (n : Int) := by omega
  have hlen1 : (n : Int) + 1 ≤ (s.length : Int) - 1 := by omega
  have hlen2 : (s.length : Int) ≤ 9223372036854775807 := by omega
  clear h hb hnn hsf hix hn hl2 hl hl3 hl4
  go_enter Tryd.func90, Tryd.ntmps90
  go_wp2_with fail
  refine (HN.out).mono ?_
  rintro e w1 ⟨rfl, h1, ho1⟩
  have H1 := hid h1; have HO1 := hid ho1; clear h1 ho1
  go_wp2_with fail
  refine (HI.out _).mono ?_
  rintro e w2 ⟨rfl, rfl⟩
  go_wp2_with fail
  refine (HS.out _).mono ?_
  rintro e w2 ⟨rfl, rfl⟩
  go_wp2_with fail
  rw [HF.out]
  refine (HU.out _).mono ?_
  rintro e w3 ⟨rfl, hb3⟩
  have H3 := hid (H1.out.below hb3); have HO3 := hid (Only.of_below (R := R) hb3); clear hb3
  go_wp2_with fail
  refine (HC.out _ H3.out).mono ?_
  rintro e w4 ⟨rfl, h4, ho4⟩
  have H4 := hid h4; have HO4 := hid ho4; clear h4 ho4
  go_wp2_with fail
  rw [HE.out]
  refine (HT.out _).mono ?_
  rintro e w5 ⟨rfl, hb5⟩
  have H5 := hid (H4.out.below hb5); have HO5 := hid (Only.of_below (R := R) hb5); clear hb5
  go_wp2_with fail
  refine (HM.out _ H5.out).mono ?_
  rintro e w6 ⟨rfl, h6, ho6⟩
  have H6 := hid h6; have HO6 := hid ho6; clear h6 ho6
  go_wp2_with fail
  go_ret2
  exact ⟨rfl, H6.out, HO1.out.trans (HO3.out.trans (HO4.out.trans (HO5.out.trans HO6.out)))⟩

theorem place_any (bare : Bool) (R : Nat) (r : Rd) (w : World) (h : RdAt w R r) :
    Calls Tryd.prog 90 #[.pointer (some ⟨R, 0, none⟩), .bool bare] w (RdPost R w (.tuple #[.int .i64 (placeR bare r).1.1, .int .i64 (placeR bare r).1.2]) (placeR bare r).2) := by
  unfold placeR placeA
  by_cases hb : noPlace bare (nextR r).1
  · rw [if_pos hb]
    exact place_bad bare R r w h hb
  · rw [if_neg hb]
    cases bare with
    | true => exact place_bare R r w h hb
    | false => exact place_full R r w h hb

/-- An operation's name and how it is ordered. -/
def orderedS (l : List UInt8) : List UInt8 × Bool × Bool :=
  if Lib.hasSuffix l [46, 97, 113, 114, 108] then (l.take (l.length - 5), true, true)
  else if Lib.hasSuffix l [46, 97, 113] then (l.take (l.length - 3), true, false)
  else if Lib.hasSuffix l [46, 114, 108] then (l.take (l.length - 3), false, true)
  else (l, false, false)

set_option maxHeartbeats 2000000 in
theorem ordered_any (l : List UInt8) (w : World) (hl : l.length < 4294967281) :
    Calls Tryd.prog 48 #[.string ⟨l.toArray⟩] w fun e w' => e = .returned (.tuple #[.string ⟨(orderedS l).1.toArray⟩, .bool (orderedS l).2.1, .bool (orderedS l).2.2]) ∧ w' = w := by
  have H1 := hid (fun w => Tryd.strings_HasSuffix ⟨l.toArray⟩ ⟨#[46, 97, 113, 114, 108]⟩ w (by rw [ba_size]; omega))
  have H2 := hid (fun w => Tryd.strings_HasSuffix ⟨l.toArray⟩ ⟨#[46, 97, 113]⟩ w (by rw [ba_size]; omega))
  have H3 := hid (fun w => Tryd.strings_HasSuffix ⟨l.toArray⟩ ⟨#[46, 114, 108]⟩ w (by rw [ba_size]; omega))
  rw [ba_data, show (⟨#[46, 97, 113, 114, 108]⟩ : ByteArray).data.toList = [46, 97, 113, 114, 108] from rfl] at H1
  rw [ba_data, show (⟨#[46, 97, 113]⟩ : ByteArray).data.toList = [46, 97, 113] from rfl] at H2
  rw [ba_data, show (⟨#[46, 114, 108]⟩ : ByteArray).data.toList = [46, 114, 108] from rfl] at H3
  have suf : ∀ p : List UInt8, Lib.hasSuffix l p = true → p.length ≤ l.length := fun p h => by
    unfold Lib.hasSuffix at h
    exact (List.isSuffixOf_iff_suffix.1 h).length_le
  have HE := fun k => hid (show (⟨l.toArray⟩ : ByteArray).extract 0 k = ⟨(l.take k).toArray⟩ from extract_ba l 0 k)
  unfold orderedS
  cases h1 : Lib.hasSuffix l [46, 97, 113, 114, 108] with
  | true =>
    have hk := suf _ h1
    rw [h1] at H1
    have hlen1 : (5 : Int) ≤ (l.length : Int) := by simp at hk; omega
    have hlen2 : (l.length : Int) ≤ 9223372036854775807 := by omega
    have HT := hid (HE (l.length - 5))
    clear suf hk HE h1 H2 H3 hl
    go_enter Tryd.func48, Tryd.ntmps48
    go_wp2_with fail
    refine (H1.out _).mono ?_
    rintro e w2 ⟨rfl, rfl⟩
    go_wp2_with fail
    go_ret3
    exact ⟨by rw [HT.out.out]; simp, rfl⟩
  | false =>
    rw [h1] at H1
    cases h2 : Lib.hasSuffix l [46, 97, 113] with
    | true =>
      have hk := suf _ h2
      rw [h2] at H2
      have hlen1 : (3 : Int) ≤ (l.length : Int) := by simp at hk; omega
      have hlen2 : (l.length : Int) ≤ 9223372036854775807 := by omega
      have HT := hid (HE (l.length - 3))
      clear suf hk HE h1 h2 H3 hl
      go_enter Tryd.func48, Tryd.ntmps48
      go_wp2_with fail
      refine (H1.out _).mono ?_
      rintro e w2 ⟨rfl, rfl⟩
      go_wp2_with fail
      refine (H2.out _).mono ?_
      rintro e w2 ⟨rfl, rfl⟩
      go_wp2_with fail
      go_ret3
      exact ⟨by rw [HT.out.out]; simp, rfl⟩
    | false =>
      rw [h2] at H2
      cases h3 : Lib.hasSuffix l [46, 114, 108] with
      | true =>
        have hk := suf _ h3
        rw [h3] at H3
        have hlen1 : (3 : Int) ≤ (l.length : Int) := by simp at hk; omega
        have hlen2 : (l.length : Int) ≤ 9223372036854775807 := by omega
        have HT := hid (HE (l.length - 3))
        clear suf hk HE h1 h2 h3 hl
        go_enter Tryd.func48, Tryd.ntmps48
        go_wp2_with fail
        refine (H1.out _).mono ?_
        rintro e w2 ⟨rfl, rfl⟩
        go_wp2_with fail
        refine (H2.out _).mono ?_
        rintro e w2 ⟨rfl, rfl⟩
        go_wp2_with fail
        refine (H3.out _).mono ?_
        rintro e w2 ⟨rfl, rfl⟩
        go_wp2_with fail
        go_ret3
        exact ⟨by rw [HT.out.out]; simp, rfl⟩
      | false =>
        rw [h3] at H3
        clear suf HE h1 h2 h3 hl
        go_enter Tryd.func48, Tryd.ntmps48
        go_wp2_with fail
        refine (H1.out _).mono ?_
        rintro e w2 ⟨rfl, rfl⟩
        go_wp2_with fail
        refine (H2.out _).mono ?_
        rintro e w2 ⟨rfl, rfl⟩
        go_wp2_with fail
        refine (H3.out _).mono ?_
        rintro e w2 ⟨rfl, rfl⟩
        go_wp2_with fail
        go_ret3
        exact ⟨by simp, rfl⟩

end Go.Proofs.YteidojpklpfdeaaDoor
