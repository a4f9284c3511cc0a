/- What asm.Parse reads of a text, plainly. The walk of asm.Parse. Plain: an instruction's text is read as that instruction. No program in it. -/
import Derived.Test.YteidojpklpfdeaaDoorRdrF
import Derived.Test.YteidojpklpfdeaaDoorMB
import Derived.Deep.RegionHeld3
import Derived.Lib.SplitLaws
import Derived.Lib.IndexBytes
import Derived.Test.YteidojpklpfdeaaDoorME
import Derived.Test.YteidojpklpfdeaaDoorMC
/- What asm.Parse reads of a text, plainly. -/
namespace Go.Proofs.YteidojpklpfdeaaDoor
open Go.RowKit
attribute [local go_sem] setCell_drewN alloc_drewN
set_option linter.unusedVariables false
set_option linter.unusedSimpArgs false

/-- A text's name, and what stands behind it. -/
def headS (l : List UInt8) : List UInt8 × List UInt8 :=
  if Lib.indexAny (trimT l) [32, 9] < 0 then (trimT l, []) else ((trimT l).take (Lib.indexAny (trimT l) [32, 9]).toNat, trimT ((trimT l).drop (Lib.indexAny (trimT l) [32, 9]).toNat))

/-- The operation of a name; 0 of none. -/
def findS (nm : List UInt8) : Int := match (List.range 98).find? (fun j => (rowAt ((j + 1 : Nat) : Int)).name.toList == nm) with
  | some j => ((j + 1 : Nat) : Int)
  | none => 0

theorem isFind_findS (nm : List UInt8) (r : Int) (h : IsFind ⟨nm.toArray⟩ r) : r = findS nm := by
  have e : (⟨nm.toArray⟩ : ByteArray).toList = nm := by rw [Lib.toList_data]
  unfold IsFind at h
  rw [e] at h
  unfold findS
  rcases h with ⟨k, k1, k2, hno, hh, rfl⟩ | ⟨hno, rfl⟩
  · have hf : (List.range 98).find? (fun j => (rowAt ((j + 1 : Nat) : Int)).name.toList == nm) = some (k - 1) := by
      rw [List.find?_range_eq_some]
      refine ⟨?_, ?_, ?_⟩
      · rw [show k - 1 + 1 = k by omega]; exact hh
      · simp; omega
      · intro j hj
        have := hno (j + 1) (by omega) (by omega)
        rw [this]; rfl
    rw [hf]
    simp only [show k - 1 + 1 = k by omega]
  · have hf : (List.range 98).find? (fun j => (rowAt ((j + 1 : Nat) : Int)).name.toList == nm) = none := by
      rw [List.find?_range_eq_none]
      intro j hj
      rw [hno (j + 1) (by omega) (by omega)]; rfl
    rw [hf]

theorem findS_range (nm : List UInt8) (h : findS nm ≠ 0) : 1 ≤ findS nm ∧ findS nm ≤ 98 := by
  unfold findS at h ⊢
  split
  · next j hj =>
    have := List.mem_range.1 (List.mem_of_find?_eq_some hj)
    omega
  · next hj => rw [hj] at h; exact absurd rfl h

theorem find_fn (nm : List UInt8) (w : World) : Calls Tryd.prog 49 #[.string ⟨nm.toArray⟩] w fun e w' => e = .returned (.int .i64 (findS nm)) ∧ Below w.heap.size w w' :=
  (find_any ⟨nm.toArray⟩ w).mono fun e w' ⟨r, hr, he, hb⟩ => by
    rw [isFind_findS nm r hr] at he
    exact ⟨he, hb⟩

/-- What is read of an operation's name and of what stands behind it. -/
def startR (rest : List UInt8) : Rd := ⟨if rest = [] then [] else Lib.split rest [44], false⟩
def readS (nm rest : List UInt8) (aq rl : Bool) : Ins × Rd := partsR ⟨findS nm, 0, 0, 0, 0, 0, aq, rl⟩ (startR rest)
/-- A text's instruction. -/
def parseF (l : List UInt8) : Option Ins :=
  if findS (orderedS (headS l).1).1 = 0 then none
  else if (readS (orderedS (headS l).1).1 (headS l).2 (orderedS (headS l).1).2.1 (orderedS (headS l).1).2.2).2.bad = true ∨ (readS (orderedS (headS l).1).1 (headS l).2 (orderedS (headS l).1).2.1 (orderedS (headS l).1).2.2).2.list ≠ [] ∨ right (readS (orderedS (headS l).1).1 (headS l).2 (orderedS (headS l).1).2.1 (orderedS (headS l).1).2.2).1 = false then none
  else some (readS (orderedS (headS l).1).1 (headS l).2 (orderedS (headS l).1).2.1 (orderedS (headS l).1).2.2).1

def ParsePost (o : Option Ins) (w : World) (e : Ending) (w' : World) : Prop := e = .returned (.tuple #[(o.getD zeroIns).v, .int .i64 (if o.isSome then 0 else 40)]) ∧ Below w.heap.size w w'

theorem trimT_len (l : List UInt8) : (trimT l).length ≤ l.length := by
  unfold trimT Lib.trimS Lib.trimLeftS Lib.trimRightS
  refine Nat.le_trans (List.dropWhile_sublist _).length_le ?_
  rw [List.length_reverse]
  refine Nat.le_trans (List.dropWhile_sublist _).length_le ?_
  simp

theorem indexAny_lt (l cs : List UInt8) (h : 0 ≤ Lib.indexAny l cs) : Lib.indexAny l cs < l.length := by
  induction l with
  | nil => simp [Lib.indexAny] at h
  | cons a t ih =>
    unfold Lib.indexAny at h ⊢
    split
    · simp <;> omega
    · next h1 =>
      rw [if_neg h1] at h
      split
      · simp <;> omega
      · next h2 =>
        rw [if_neg h2] at h
        have := Lib.indexAny_ge cs t
        have h3 : Lib.indexAny t cs ≠ -1 := by simpa using h2
        have := ih (by omega)
        simp <;> omega

/-- Cut at commas. -/
def splitC : List UInt8 → List (List UInt8)
  | [] => [[]]
  | c :: l => if c = 44 then [] :: splitC l else match splitC l with
    | a :: r => (c :: a) :: r
    | [] => [[c]]

theorem splitC_ne (l : List UInt8) : splitC l ≠ [] := by
  cases l with
  | nil => simp [splitC]
  | cons c t =>
    unfold splitC
    split
    · simp
    · split <;> simp

theorem splitK_comma : ∀ l : List UInt8, Lib.splitK [44] 0 (l.count 44) l = splitC l := by
  intro l
  induction l with
  | nil => rfl
  | cons c t ih =>
    by_cases hc : c = 44
    · subst hc
      rw [List.count_cons_self]
      unfold Lib.splitK splitC
      have hi : Lib.index (44 :: t) [44] = 0 := by rw [Lib.index_one]; rfl
      rw [hi, if_neg (by decide), if_pos rfl]
      simp only [Int.toNat_zero, Nat.zero_add, List.take_zero, List.length_cons, List.length_nil, List.drop_succ_cons, List.drop_zero]
      rw [ih]
    · rw [List.count_cons_of_ne (by simpa using hc)]
      rw [splitC, if_neg hc, ← ih]
      have hx : Lib.index (c :: t) [44] = if Lib.index t [44] == -1 then -1 else Lib.index t [44] + 1 := by
        rw [Lib.index_one, Lib.index_one]
        show (if c == 44 then 0 else _) = _
        rw [if_neg (by simpa using hc)]
      cases hk : t.count 44 with
      | zero => rfl
      | succ k =>
        unfold Lib.splitK
        rw [hx]
        have hge : -1 ≤ Lib.index t [44] := by rw [Lib.index_one]; exact Lib.indexByte_ge _ _
        by_cases h0 : Lib.index t [44] = -1
        · rw [h0]; rfl
        · obtain ⟨n, hn⟩ := Int.eq_ofNat_of_zero_le (show 0 ≤ Lib.index t [44] by omega)
          rw [hn]
          have e1 : ((n : Int) == -1) = false := by simp <;> omega
          have e2 : ((n : Int) + 1 == -1) = false := by simp <;> omega
          have e3 : ((n : Int) + 1).toNat = n + 1 := by omega
          rw [e1]
          simp only [Bool.false_eq_true, if_false, e2, e3, Int.toNat_natCast, Nat.add_zero, List.take_succ_cons, List.length_cons, List.length_nil]
          rw [show n + 1 + (0 + 1) = (n + 1) + 1 by omega, List.drop_succ_cons]

theorem split_comma (l : List UInt8) : Lib.split l [44] = splitC l := by
  unfold Lib.split
  rw [Lib.count_one]
  exact splitK_comma l

theorem splitC_join : ∀ ps : List (List UInt8), ps ≠ [] → (∀ p ∈ ps, ∀ c ∈ p, c ≠ 44) → splitC (joinL ps) = ps := by
  intro ps
  have one : ∀ (p : List UInt8), (∀ c ∈ p, c ≠ 44) → ∀ r, splitC (p ++ 44 :: r) = p :: splitC r := by
    intro p
    induction p with
    | nil => intro _ r; simp [splitC]
    | cons c t ih =>
      intro h r
      rw [List.cons_append, splitC, if_neg (h c List.mem_cons_self), ih (fun d hd => h d (List.mem_cons_of_mem _ hd))]
  have last : ∀ (p : List UInt8), (∀ c ∈ p, c ≠ 44) → splitC p = [p] := by
    intro p
    induction p with
    | nil => intro _; rfl
    | cons c t ih =>
      intro h
      rw [splitC, if_neg (h c List.mem_cons_self), ih (fun d hd => h d (List.mem_cons_of_mem _ hd))]
  induction ps with
  | nil => intro h; exact absurd rfl h
  | cons a t ih =>
    intro _ h
    cases t with
    | nil => exact last a (h a List.mem_cons_self)
    | cons b l =>
      rw [joinL, one a (h a List.mem_cons_self), ih (by simp) (fun p hp => h p (List.mem_cons_of_mem _ hp))]


theorem splitC_len : ∀ (l p : List UInt8), p ∈ splitC l → p.length ≤ l.length := by
  intro l
  induction l with
  | nil => intro p hp; rw [List.mem_singleton.1 hp]; simp
  | cons c t ih =>
    intro p hp
    unfold splitC at hp
    split at hp
    · rcases List.mem_cons.1 hp with rfl | hp
      · simp
      · have := ih p hp; simp <;> omega
    · split at hp
      · next a r hs =>
        rcases List.mem_cons.1 hp with rfl | hp
        · have := ih a (by rw [hs]; exact List.mem_cons_self); simp <;> omega
        · have := ih p (by rw [hs]; exact List.mem_cons_of_mem _ hp); simp <;> omega
      · rw [List.mem_singleton.1 hp]; simp

theorem splitC_length (l : List UInt8) : (splitC l).length ≤ l.length + 1 := by
  induction l with
  | nil => simp [splitC]
  | cons c t ih =>
    unfold splitC
    split
    · simp <;> omega
    · split
      · next a r hs => rw [hs] at ih; simp at ih ⊢; omega
      · simp

theorem split_lists (rest : List UInt8) : (Lib.splitB ⟨#[44]⟩ 0 (Lib.countB ⟨rest.toArray⟩ ⟨#[44]⟩) ⟨rest.toArray⟩).map (·.data.toList) = splitC rest := by
  rw [Lib.splitB_data, ba_data]
  show Lib.splitK [44] 0 (Lib.count (⟨rest.toArray⟩ : ByteArray).data.toList [44]) rest = _
  rw [ba_data, Lib.count_one]
  exact splitK_comma rest
theorem split_count (rest : List UInt8) : (splitC rest).length = Lib.countB ⟨rest.toArray⟩ ⟨#[44]⟩ + 1 := by
  rw [← split_lists, List.length_map]
  exact Lib.splitB_all ⟨#[44]⟩ (by decide) 0 _ _ rfl
theorem split_cells (rest : List UInt8) (j : Nat) (p : List UInt8) (h : (splitC rest)[j]? = some p) : ((Lib.splitB ⟨#[44]⟩ 0 (Lib.countB ⟨rest.toArray⟩ ⟨#[44]⟩) ⟨rest.toArray⟩).map Value.string).toArray[j]? = some (.string ⟨p.toArray⟩) := by
  rw [← split_lists, List.getElem?_map] at h
  obtain ⟨b, hb, rfl⟩ := Option.map_eq_some_iff.1 h
  rw [List.getElem?_toArray, List.getElem?_map, hb]
  exact congrArg some (congrArg Value.string (ba_eta b))

end Go.Proofs.YteidojpklpfdeaaDoor

/- The walk of asm.Parse. -/
namespace Go.Proofs.YteidojpklpfdeaaDoor
open Go.RowKit
attribute [local go_sem] setCell_drewN alloc_drewN
set_option linter.unusedVariables false
set_option linter.unusedSimpArgs false

theorem XAt.set0 {w : World} {X : Nat} {x : Ins} (h : XAt w X x) (u : Int) : XAt (w.setCell ⟨X, 0, none⟩ (.int .i64 u)) X { x with op := u } := cells_set h 0 _

theorem new_at {W : World} {o : Obj} {n : Nat} (h : W.heap.size = n) : (W.alloc o).heap[n]? = some o := by subst h; exact heap_alloc_new _ _
theorem size_set (W : World) (a : Addr) (u : Value) : (W.setCell a u).heap.size = W.heap.size := by simp [World.setCell]

/-- What strings.IndexAny answers of a text. -/
def IndexSaid (l : List UInt8) : Prop := ∀ w, Calls Tryd.prog 47 #[.string ⟨(trimT l).toArray⟩, .string ⟨#[32, 9]⟩] w fun e w' => e = .returned (.int .i64 (Lib.indexAny (trimT l) [32, 9])) ∧ Below w.heap.size w w'

theorem bstep {w wc w' : World} {o : Obj} (h : Below (w.heap.size + 1) (w.alloc o) wc) (hb : Below wc.heap.size wc w') : Below (w.heap.size + 1) (w.alloc o) w' :=
  h.trans (hb.mono (by have := h.size; simp at this; exact this))

abbrev zeroC : Array Value := #[.int .i64 0, .int .i64 0, .int .i64 0, .int .i64 0, .int .i64 0, .int .i64 0, .bool false, .bool false]

set_option maxHeartbeats 8000000 in
set_option maxRecDepth 100000 in
theorem parse_walk (l : List UInt8) (w : World) (hl : l.length < 4294967281) (hia : IndexSaid l) :
    Calls Tryd.prog 12 #[.string ⟨l.toArray⟩] w (ParsePost (parseF l) w) := by
  have HT := hid (fun w => trim_any l w hl)
  have HI := hid hia
  have hl2 := trimT_len l
  have HH := hid (show headS l = if Lib.indexAny (trimT l) [32, 9] < 0 then (trimT l, []) else ((trimT l).take (Lib.indexAny (trimT l) [32, 9]).toNat, trimT ((trimT l).drop (Lib.indexAny (trimT l) [32, 9]).toNat)) from rfl)
  have hlt := indexAny_lt (trimT l) [32, 9]
  have HP := hid (show parseF l = if findS (orderedS (headS l).1).1 = 0 then none
    else if (readS (orderedS (headS l).1).1 (headS l).2 (orderedS (headS l).1).2.1 (orderedS (headS l).1).2.2).2.bad = true ∨ (readS (orderedS (headS l).1).1 (headS l).2 (orderedS (headS l).1).2.1 (orderedS (headS l).1).2.2).2.list ≠ [] ∨ right (readS (orderedS (headS l).1).1 (headS l).2 (orderedS (headS l).1).2.1 (orderedS (headS l).1).2.2).1 = false then none
    else some (readS (orderedS (headS l).1).1 (headS l).2 (orderedS (headS l).1).2.1 (orderedS (headS l).1).2.2).1 from rfl)
  generalize parseF l = res at *
  unfold IndexSaid at HI
  generalize hts : trimT l = s at *
  have HTS := hid hts; clear hts
  generalize Lib.indexAny s [32, 9] = n at *
  have hhl : (headS l).1.length < 4294967281 ∧ (headS l).2.length < 4294967281 := by
    rw [HH.out]
    split
    · exact ⟨by dsimp only; omega, by simp⟩
    · exact ⟨by simp; omega, by
        have := trimT_len (s.drop n.toNat)
        simp at this ⊢; omega⟩
  generalize headS l = hd at *
  obtain ⟨nm, rest⟩ := hd
  dsimp only at *
  obtain ⟨hnl, hrl⟩ := hhl
  have HO := hid (fun w => ordered_any nm w hnl)
  generalize orderedS nm = o at *
  obtain ⟨nm2, aq, rl⟩ := o
  dsimp only at *
  have HF := hid (fun w => find_fn nm2 w)
  have HX := hid (show readS nm2 rest aq rl = partsR ⟨findS nm2, 0, 0, 0, 0, 0, aq, rl⟩ (startR rest) from rfl)
  have HRG := hid (findS_range nm2)
  generalize readS nm2 rest aq rl = y at *
  generalize findS nm2 = op at *
  have hs1 : s.length < 4294967281 := by omega
  clear hl hl2 hia
  have hacc := Below.refl (w.heap.size + 1) (w.alloc (.cells zeroC 24))
  go_enter Tryd.func12, Tryd.ntmps12
  go_wp2_with fail
  refine (HT.out _).mono ?_
  rintro e w1 ⟨rfl, hb⟩
  have HA := hid (bstep hacc hb); clear hacc hb
  go_wp2_with fail
  refine (HI.out _).mono ?_
  rintro e w2 ⟨rfl, hb⟩
  have HA2 := hid (bstep HA.out hb); clear HA hb
  go_upto_if 15 with fail
  go_cut [4, 5] (fun s4 s5 wx => s4 = .string ⟨nm.toArray⟩ ∧ s5 = .string ⟨rest.toArray⟩ ∧ Below (w.heap.size + 1) (w.alloc (.cells zeroC 24)) wx)
  case first =>
    by_cases h0 : n < 0
    · have hh := HH.out
      rw [if_pos h0] at hh
      obtain ⟨rfl, rfl⟩ := Prod.mk.inj hh
      have HA3 := hid HA2.out
      clear hh HH
      go_wp2_with fail
      go_meet
      exact ⟨rfl, rfl, HA3.out⟩
    · have hh := HH.out
      rw [if_neg h0] at hh
      obtain ⟨h1, h2⟩ := Prod.mk.inj hh
      have H1 := hid h1; have H2 := hid h2
      have hlt' := hlt (by omega)
      obtain ⟨m, rfl⟩ := Int.eq_ofNat_of_zero_le (show 0 ≤ n by omega)
      simp only [Int.toNat_natCast] at H1 H2
      have hm : (m : Int) ≤ (s.length : Int) := by omega
      have hm2 : (s.length : Int) ≤ 9223372036854775807 := by omega
      have HE := hid (extract_ba s 0 m)
      have HD := hid (show (⟨s.toArray⟩ : ByteArray).extract m s.length = ⟨(s.drop m).toArray⟩ by rw [extract_ba]; congr 2; exact List.take_of_length_le (by simp))
      have HT2 := hid (fun w => trim_any (s.drop m) w (by simp; omega))
      rw [← H2.out] at HT2
      have HA3 := hid HA2.out
      clear hh HH h1 h2 hlt hlt' h0 hs1 hnl hrl
      go_wp2_with fail
      have hA3 := HA3.out
      go_region_held3 (fun w' => Below (w.heap.size + 1) (w.alloc (.cells zeroC 24)) w') (first | assumption | exact hA3.drew | go_keep) (first | (go_at_call 46; rw [HD.out]; refine (HT2.out _).mono ?_; rintro e w' ⟨rfl, hb⟩; have hs' := bstep (by assumption) hb; clear hb))
      all_goals
        go_wp2_with fail
        go_meet
        refine ⟨?_, rfl, by assumption⟩
        rw [HE.out, H1.out]
        simp
  case rest =>
    obtain ⟨rfl, rfl, hA⟩ := hcut
    have HA := hid hA
    clear hA hlt hs1 hnl HH HI HT HTS HA2
    go_wp2_with fail
    refine (HO.out _).mono ?_
    rintro e w5 ⟨rfl, rfl⟩
    go_wp2_with fail
    refine (HF.out _).mono ?_
    rintro e w6 ⟨rfl, hb⟩
    have hG6 : XAt w6 w.heap.size zeroIns := (hb.block w.heap.size (by have := HA.out.size; simp at this; simp; omega)).trans ((Below.heap_alloc _ _ _ (by have := HA.out.size; simp at this; omega)).trans ((HA.out.block w.heap.size (by omega)).trans (heap_alloc_new _ _)))
    have hX6 : XAt w6 wc.heap.size ⟨0, 0, 0, 0, 0, 0, aq, rl⟩ := (hb.block wc.heap.size (by simp)).trans (heap_alloc_new _ _)
    have hB6 : Below w.heap.size w w6 := (((Below.refl _ _).alloc (Nat.le_refl _) _).trans (HA.out.mono (by omega))).trans (((Below.refl w.heap.size wc).alloc (by have := HA.out.size; simp at this; omega) _).trans (hb.mono (by have := HA.out.size; simp at this; simp; omega)))
    have hGX : w.heap.size ≠ wc.heap.size := by have := HA.out.size; simp at this; omega
    have hXG : w.heap.size ≤ wc.heap.size := by have := HA.out.size; simp at this; omega
    clear hb HA HO HF
    generalize wc.heap.size = X at *
    have HG := hid hG6; have HX6 := hid hX6; have HB6 := hid hB6; have HGX := hid hGX; have HXG := hid hXG; clear hG6 hX6 hB6 hGX hXG
    have hi23 : (Tryd.prog.info? 24).map (·.size) = some 8 := by kernel_rfl
    have d0 := HX6.out.cell 0
    have e0 := HX6.out.free 0
    simp only [List.getElem?_toArray, List.getElem?_cons_zero] at d0
    by_cases h0 : op = 0
    · have hp := HP.out
      rw [if_pos h0] at hp
      subst hp
      subst h0
      clear HP HRG HX
      have HG7 := hid ((Below.heap_setCell w6 ⟨X, 0, none⟩ (.int .i64 0) w.heap.size HGX.out).trans HG.out)
      go_wp2_with (refine wpList_store_row rfl 24 (.tmp 2) (.tmp 37) rfl w.heap.size rfl zeroC _ _ rfl HG7.out hi23 rfl rfl ?_)
      refine bodyPost_ret (v := .tuple #[.agg zeroC, .int .i64 40]) ?_ rfl ?_
      · rw [results_cell_tmp (p := 2) (u := 3) (ty := 24) rfl]
        have hl := run_loadVar_row (P := Tryd.prog) ((w6.setCell ⟨X, 0, none⟩ (.int .i64 0)).setRow w.heap.size zeroC) w.heap.size 24 24 _ (0, 0) _ (setRow_heap _ _ _ _ _ _ HG7.out) Tryd.underlying24 rfl hi23
        simp [asAddr, hl]
      · exact ⟨rfl, bel_setRow ((HB6.out).setCell HXG.out _) (Nat.le_refl _)⟩
    · have hp := HP.out
      rw [if_neg h0] at hp
      have HP2 := hid hp
      obtain ⟨hop1, hop2⟩ := HRG.out h0
      have h0b : (op == 0) = false := by simpa using h0
      have HY := hid HX.out
      clear hp HP HRG HX h0
      have HX7 := hid (HX6.out.set0 op)
      have HG7 := hid ((Below.heap_setCell w6 ⟨X, 0, none⟩ (.int .i64 op) w.heap.size HGX.out).trans HG.out)
      have HB7 := hid (HB6.out.setCell (p := ⟨X, 0, none⟩) HXG.out (.int .i64 op))
      clear HG HX6 HB6
      have hlr := hrl
      clear hrl
      go_upto_if 41 with fail
      go_cut [5] (fun s5 wx => s5 = .string ⟨rest.toArray⟩ ∧ RdAt wx w6.heap.size (startR rest) ∧ XAt wx X ⟨op, 0, 0, 0, 0, 0, aq, rl⟩ ∧ XAt wx w.heap.size zeroIns ∧ Below w.heap.size w wx)
      case first =>
        cases rest with
        | nil =>
          go_wp2_with fail
          go_meet
          refine ⟨rfl, ⟨_, new_at (size_set _ _ _), .inl ⟨rfl, _, _, rfl⟩⟩, ?_, ?_, ?_⟩
          · exact HX7.out.below ((Below.refl _ _).alloc (Nat.le_refl _) _)
          · exact (show XAt _ _ zeroIns from HG7.out).below ((Below.refl _ _).alloc (Nat.le_refl _) _)
          · exact HB7.out.alloc HB7.out.size _
        | cons a t =>
          have HS := hid (fun w => split_any ⟨(a :: t).toArray⟩ w (by rw [ba_size]; exact hlr))
          have HQ := hid (show startR (a :: t) = ⟨splitC (a :: t), false⟩ by unfold startR; rw [if_neg (by simp), split_comma])
          go_wp2_with fail
          refine (HS.out _).mono ?_
          rintro e w8 ⟨rfl, hw⟩
          have hR8 : w8.heap[w6.heap.size]? = some (.cells #[.slice none 0 0, .bool false] 82 (0, 0)) := by
            rw [hw]
            exact (Below.heap_alloc _ _ _ (by simp)).trans (new_at (size_set _ _ _))
          have hb8 : Below (w6.setCell ⟨X, 0, none⟩ (.int .i64 op)).heap.size (w6.setCell ⟨X, 0, none⟩ (.int .i64 op)) w8 := by
            rw [hw]
            exact ((Below.refl _ _).alloc (Nat.le_refl _) _).alloc (by simp) _
          have hL8 : w8.heap[w6.heap.size + 1]? = some (.cells ((Lib.splitB ⟨#[44]⟩ 0 (Lib.countB ⟨(a :: t).toArray⟩ ⟨#[44]⟩) ⟨(a :: t).toArray⟩).map Value.string).toArray 9 (0, 0)) := by
            rw [hw]
            exact new_at (by simp [size_set])
          have d8 := two_cell0 hR8
          have f8 := two_free hR8 0
          have HR8 := hid hR8; have HB8 := hid hb8; have HL8 := hid hL8
          have HZ := hid (show ((w6.setCell ⟨X, 0, none⟩ (.int .i64 op)).alloc (.cells #[.slice none 0 0, .bool false] 82)).heap.size = w6.heap.size + 1 by simp [size_set])
          rw [HZ.out]
          clear hR8 hb8 hL8 hw HS
          go_wp2_with fail
          go_meet
          refine ⟨rfl, ?_, ?_, ?_, ?_⟩
          · refine ⟨_, two_set0 HR8.out, .inr ⟨w6.heap.size + 1, 0, Lib.countB ⟨(a :: t).toArray⟩ ⟨#[44]⟩ + 1, ((Lib.splitB ⟨#[44]⟩ 0 (Lib.countB ⟨(a :: t).toArray⟩ ⟨#[44]⟩) ⟨(a :: t).toArray⟩).map Value.string).toArray, ?_, (Below.heap_setCell _ _ _ _ (by simp)).trans HL8.out, ?_, ?_, ?_, ?_⟩⟩
            · rw [HQ.out, split_count]
            · rw [HQ.out, split_count]; omega
            · rw [HQ.out, split_count]; exact Nat.le_refl _
            · have h1 := split_count (a :: t)
              have h2 := splitC_length (a :: t)
              omega
            · rw [HQ.out]
              intro j p hj
              rw [Nat.zero_add]
              exact ⟨Nat.lt_of_le_of_lt (splitC_len _ p (List.mem_of_getElem? hj)) hlr, split_cells _ j p hj⟩
          · exact (HX7.out.below HB8.out).only (R := w6.heap.size) (by have := blk_lt HX7.out; rw [size_set] at this; omega) ((Only.refl _ _).setCell _ _)
          · exact (Below.heap_setCell _ _ _ _ (by have := blk_lt HG7.out; rw [size_set] at this; simp; omega)).trans ((show XAt _ _ zeroIns from HG7.out).below HB8.out)
          · exact (HB7.out.trans (HB8.out.mono HB7.out.size)).setCell (by have := HB7.out.size; rw [size_set] at this; exact this) _
      case rest =>
        obtain ⟨rfl, hR, hX, hG, hB⟩ := hcut
        have hRX := hR.ne hX
        have hRw : w.heap.size ≤ w6.heap.size := by have := HB7.out.size; rw [size_set] at this; exact this
        generalize w6.heap.size = R at *
        have HRW := hid hRw; clear hRw
        have hRG := hR.ne hG
        have HPA := hid (parts_any R X ⟨op, 0, 0, 0, 0, 0, aq, rl⟩ (startR rest) wc hop1 hop2 hX hR)
        have HG := hid hG; have HB := hid hB; have HRG := hid hRG
        clear hop1 hop2 h0b hX hR hG hB hRX hRG HX7 HG7 HB7 hlr d0 e0
        go_wp2_with fail
        refine (HPA.out).mono ?_
        rw [← HY.out]
        rintro e w9 ⟨rfl, ⟨v, hh, ht⟩, hX9, hO9⟩
        have hG9 : XAt w9 w.heap.size zeroIns := (hO9.block _ (blk_lt HG.out) HRG.out HGX.out).trans HG.out
        have hB9 : Below w.heap.size w w9 := ⟨hO9.os.trans HB.out.os, hO9.tape.trans HB.out.tape, hO9.output.trans HB.out.output, Nat.le_trans HB.out.size hO9.size, fun k hk => (hO9.block k (Nat.lt_of_lt_of_le hk HB.out.size) (by have := HRW.out; omega) (by have := HXG.out; omega)).trans (HB.out.block k hk)⟩
        clear HPA HY hO9
        obtain ⟨yx, yl, yb⟩ := y
        dsimp only at *
        have HX9 := hid hX9; have HT9 := hid ht; have HG9 := hid hG9; have HB9 := hid hB9; clear hX9 ht hG9 hB9
        have d1 := two_cell1 hh
        cases yb with
        | true =>
          have hp := HP2.out
          rw [if_pos (.inl rfl)] at hp
          subst hp
          clear HP2
          go_wp2_with (refine wpList_store_row rfl 24 (.tmp 2) (.tmp 66) rfl w.heap.size rfl zeroC _ _ rfl HG9.out hi23 rfl rfl ?_)
          refine bodyPost_ret (v := .tuple #[.agg zeroC, .int .i64 40]) ?_ rfl ?_
          · rw [results_cell_tmp (p := 2) (u := 3) (ty := 24) rfl]
            have hl := run_loadVar_row (P := Tryd.prog) (w9.setRow w.heap.size zeroC) w.heap.size 24 24 _ (0, 0) _ (setRow_heap _ _ _ _ _ _ HG9.out) Tryd.underlying24 rfl hi23
            simp [asAddr, hl]
          · exact ⟨rfl, bel_setRow HB9.out (Nat.le_refl _)⟩
        | false =>
          have d0 := two_cell0 hh
          rcases HT9.out with ⟨hyl, p, c, rfl⟩ | ⟨L, off, c, cs, rfl, h1, h3, h4, h5, h6⟩
          · subst hyl
            have HRI := hid (fun w => right_any yx w)
            cases hry : right yx with
            | false =>
              have hp := HP2.out
              rw [if_pos (.inr (.inr hry))] at hp
              subst hp
              rw [hry, show errOf false = 30 from rfl] at HRI
              clear HP2 hry
              have hx9 := HX9.out.cell
              obtain ⟨y0, y1, y2, y3, y4, y5, y6, y7⟩ := yx
              dsimp only at hx9 HRI
              go_wp2_with fail
              refine (HRI.out _).mono ?_
              rintro e w10 ⟨rfl, hb10⟩
              have HG10 := hid (HG9.out.below hb10); have HB10 := hid (HB9.out.trans (hb10.mono HB9.out.size)); clear hb10 hx9
              go_wp2_with (refine wpList_store_row rfl 24 (.tmp 2) (.tmp 66) rfl w.heap.size rfl zeroC _ _ rfl HG10.out hi23 rfl rfl ?_)
              refine bodyPost_ret (v := .tuple #[.agg zeroC, .int .i64 40]) ?_ rfl ?_
              · rw [results_cell_tmp (p := 2) (u := 3) (ty := 24) rfl]
                have hl := run_loadVar_row (P := Tryd.prog) (w10.setRow w.heap.size zeroC) w.heap.size 24 24 _ (0, 0) _ (setRow_heap _ _ _ _ _ _ HG10.out) Tryd.underlying24 rfl hi23
                simp [asAddr, hl]
              · exact ⟨rfl, bel_setRow HB10.out (Nat.le_refl _)⟩
            | true =>
              have hp := HP2.out
              rw [if_neg (by simp [hry])] at hp
              subst hp
              rw [hry, show errOf true = 0 from rfl] at HRI
              clear HP2 hry
              have hx9 := HX9.out.cell
              obtain ⟨y0, y1, y2, y3, y4, y5, y6, y7⟩ := yx
              dsimp only at hx9 HRI
              go_wp2_with fail
              refine (HRI.out _).mono ?_
              rintro e w10 ⟨rfl, hb10⟩
              have HG10 := hid (HG9.out.below hb10); have HB10 := hid (HB9.out.trans (hb10.mono HB9.out.size)); have HX10 := hid (HX9.out.below hb10); clear hb10 hx9
              have hx10 := HX10.out.cell
              dsimp only at hx10
              go_wp2_with (refine wpList_store_row rfl 24 (.tmp 2) (.tmp 67) rfl w.heap.size rfl #[.int .i64 y0, .int .i64 y1, .int .i64 y2, .int .i64 y3, .int .i64 y4, .int .i64 y5, .bool y6, .bool y7] _ _ rfl HG10.out hi23 rfl rfl ?_)
              refine bodyPost_ret (v := .tuple #[.agg #[.int .i64 y0, .int .i64 y1, .int .i64 y2, .int .i64 y3, .int .i64 y4, .int .i64 y5, .bool y6, .bool y7], .int .i64 0]) ?_ rfl ?_
              · rw [results_cell_tmp (p := 2) (u := 3) (ty := 24) rfl]
                have hl := run_loadVar_row (P := Tryd.prog) (w10.setRow w.heap.size #[.int .i64 y0, .int .i64 y1, .int .i64 y2, .int .i64 y3, .int .i64 y4, .int .i64 y5, .bool y6, .bool y7]) w.heap.size 24 24 _ (0, 0) _ (setRow_heap _ _ _ _ _ _ HG10.out) Tryd.underlying24 rfl hi23
                simp [asAddr, hl]
              · exact ⟨rfl, bel_setRow HB10.out (Nat.le_refl _)⟩
          · have hlen : (0 : Int) < (yl.length : Int) := by omega
            have hp := HP2.out
            rw [if_pos (.inr (.inl (by intro h; rw [h] at h3; simp at h3)))] at hp
            subst hp
            clear HP2 h1 h4 h6
            go_wp2_with (refine wpList_store_row rfl 24 (.tmp 2) (.tmp 66) rfl w.heap.size rfl zeroC _ _ rfl HG9.out hi23 rfl rfl ?_)
            refine bodyPost_ret (v := .tuple #[.agg zeroC, .int .i64 40]) ?_ rfl ?_
            · rw [results_cell_tmp (p := 2) (u := 3) (ty := 24) rfl]
              have hl := run_loadVar_row (P := Tryd.prog) (w9.setRow w.heap.size zeroC) w.heap.size 24 24 _ (0, 0) _ (setRow_heap _ _ _ _ _ _ HG9.out) Tryd.underlying24 rfl hi23
              simp [asAddr, hl]
            · exact ⟨rfl, bel_setRow HB9.out (Nat.le_refl _)⟩


theorem ascii_trim {l : List UInt8} (h : ∀ b ∈ l, b.toNat < 128) : ∀ b ∈ trimT l, b.toNat < 128 := by
  intro b hb
  apply h
  unfold trimT Lib.trimS Lib.trimLeftS Lib.trimRightS at hb
  have h1 := (List.dropWhile_sublist _).subset hb
  rw [List.mem_reverse] at h1
  have h2 := (List.dropWhile_sublist _).subset h1
  exact List.mem_reverse.1 h2

theorem indexSaid_ascii (l : List UInt8) (hl : l.length < 4294967281) (h : ∀ b ∈ l, b.toNat < 128) : IndexSaid l := by
  intro w
  have hz := trimT_len l
  have := Tryd.strings_IndexAny_laid ⟨(trimT l).toArray⟩ ⟨#[32, 9]⟩ w (by rw [ba_size]; omega) (by decide) (by
    intro j b hb
    rw [ba_data] at hb
    exact ascii_trim h b (List.mem_of_getElem? hb)) (ascii_of_all (by decide))
  rw [ba_data] at this
  exact this

theorem indexSaid_long (l : List UInt8) (hl : l.length < 4294967281) (h8 : 8 < (trimT l).length) : IndexSaid l := by
  intro w
  have hz := trimT_len l
  have h := Tryd.strings_IndexAny_long (fun w => by kernel_rfl) ⟨(trimT l).toArray⟩ ⟨#[32, 9]⟩ w (by decide) (by rw [ba_size]; omega) (by rw [ba_size]; omega) (by decide) (ascii_of_all (by decide))
  rw [ba_data] at h
  refine h.mono fun e w' ⟨he, hw⟩ => ⟨he, ?_⟩
  rw [hw]
  exact ((Below.refl _ _).alloc (Nat.le_refl _) _).alloc (by simp) _

/-- Is a text one of which it is known what is found in it? -/
def askOk (l : List UInt8) : Bool := decide (l.length < 4294967281) && (decide (8 < (trimT l).length) || l.all fun b => decide (b.toNat < 128))

theorem parse_known (l : List UInt8) (w : World) (h : askOk l = true) : Calls Tryd.prog 12 #[.string ⟨l.toArray⟩] w (ParsePost (parseF l) w) := by
  unfold askOk at h
  simp only [Bool.and_eq_true, decide_eq_true_eq, Bool.or_eq_true, List.all_eq_true] at h
  obtain ⟨h1, h2⟩ := h
  refine parse_walk l w h1 ?_
  rcases h2 with h2 | h2
  · exact indexSaid_long l h1 h2
  · exact indexSaid_ascii l h1 h2

end Go.Proofs.YteidojpklpfdeaaDoor

/- Plain: an instruction's text is read as that instruction. No program in it. -/
namespace Go.Proofs.YteidojpklpfdeaaDoor
open Go.RowKit
attribute [local go_sem] setCell_drewN alloc_drewN
set_option linter.unusedVariables false
set_option linter.unusedSimpArgs false

theorem dropWhile_id {p : UInt8 → Bool} {l : List UInt8} (h : ∀ a, l.head? = some a → p a = false) : l.dropWhile p = l := by
  cases l with
  | nil => rfl
  | cons a t => rw [List.dropWhile_cons, h a rfl]; rfl

def NB (a : UInt8) : Prop := a ≠ 32 ∧ a ≠ 9
theorem nb_contains {a : UInt8} (h : NB a) : ([32, 9] : List UInt8).contains a = false := by
  obtain ⟨h1, h2⟩ := h
  simp [h1, h2]

theorem trimT_id {l : List UInt8} (h1 : ∀ a, l.head? = some a → NB a) (h2 : ∀ a, l.getLast? = some a → NB a) : trimT l = l := by
  unfold trimT Lib.trimS Lib.trimRightS Lib.trimLeftS
  have e : l.reverse.dropWhile (([32, 9] : List UInt8).contains ·) = l.reverse := dropWhile_id fun a ha => nb_contains (h2 a (by rwa [List.head?_reverse] at ha))
  rw [e, List.reverse_reverse]
  exact dropWhile_id fun a ha => nb_contains (h1 a ha)

theorem trimT_solid {l : List UInt8} (h : Solid l) : trimT l = l :=
  trimT_id (fun a ha => ⟨(h.2 a (List.mem_of_mem_head? ha)).1, (h.2 a (List.mem_of_mem_head? ha)).2.1⟩) (fun a ha => ⟨(h.2 a (List.mem_of_getLast? ha)).1, (h.2 a (List.mem_of_getLast? ha)).2.1⟩)

theorem trimT_cons {l : List UInt8} (h0 : l ≠ []) (h1 : ∀ a, l.head? = some a → NB a) (h2 : ∀ a, l.getLast? = some a → NB a) : trimT (32 :: l) = l := by
  unfold trimT Lib.trimS Lib.trimRightS Lib.trimLeftS
  have e : (32 :: l).reverse.dropWhile (([32, 9] : List UInt8).contains ·) = (32 :: l).reverse := dropWhile_id fun a ha => nb_contains (h2 a (by
    rw [List.head?_reverse] at ha
    rwa [List.getLast?_cons_of_ne_nil h0] at ha))
  rw [e, List.reverse_reverse, List.dropWhile_cons]
  have e2 : ([32, 9] : List UInt8).contains 32 = true := by decide
  rw [e2, if_pos rfl]
  exact dropWhile_id fun a ha => nb_contains (h1 a ha)

/-- No blank in a text. -/
theorem indexAny_no {l : List UInt8} (h : ∀ a ∈ l, NB a) : Lib.indexAny l [32, 9] = -1 := by
  induction l with
  | nil => rfl
  | cons a t ih =>
    unfold Lib.indexAny
    rw [nb_contains (h a List.mem_cons_self), ih fun b hb => h b (List.mem_cons_of_mem _ hb)]
    rfl
theorem indexAny_at {l : List UInt8} (h : ∀ a ∈ l, NB a) (r : List UInt8) : Lib.indexAny (l ++ 32 :: r) [32, 9] = l.length := by
  induction l with
  | nil => rfl
  | cons a t ih =>
    rw [List.cons_append]
    unfold Lib.indexAny
    rw [nb_contains (h a List.mem_cons_self), ih fun b hb => h b (List.mem_cons_of_mem _ hb)]
    simp <;> omega

/-- The names: no blanks, told from the orders behind them, found. -/
def nameL (k : Nat) : List UInt8 := (rowAt (k : Int)).name.data.toList
theorem names_ok : ∀ i : Fin 98, (nameL (i.val + 1)) ≠ [] ∧ ((nameL (i.val + 1)).all fun c => c != 32 && c != 9 && c != 44 && decide (c.toNat < 128)) = true ∧ (nameL (i.val + 1)).length ≤ 20 := by decide +kernel
theorem names_ordered : ∀ i : Fin 98, ∀ aq rl : Bool, orderedS (nameL (i.val + 1) ++ sufS aq rl) = (nameL (i.val + 1), aq, rl) := by decide +kernel
theorem names_apart : ∀ i j : Fin 98, (nameL (i.val + 1) == nameL (j.val + 1)) = decide (i = j) := by decide +kernel
theorem fin_op {P : Nat → Prop} (h : ∀ i : Fin 98, P (i.val + 1)) (op : Int) (h0 : 1 ≤ op) (h1 : op ≤ 98) : ∃ k : Nat, op = (k : Int) ∧ 1 ≤ k ∧ k ≤ 98 ∧ P k := by
  obtain ⟨k, rfl⟩ := Int.eq_ofNat_of_zero_le (show 0 ≤ op by omega)
  have := h ⟨k - 1, by omega⟩
  rw [show k - 1 + 1 = k by omega] at this
  exact ⟨k, rfl, by omega, by omega, this⟩
theorem findS_name (op : Int) (h0 : 1 ≤ op) (h1 : op ≤ 98) : findS (rowAt op).name.data.toList = op := by
  obtain ⟨k, rfl⟩ := Int.eq_ofNat_of_zero_le (show 0 ≤ op by omega)
  have hf : (List.range 98).find? (fun j => (rowAt ((j + 1 : Nat) : Int)).name.toList == (rowAt (k : Int)).name.data.toList) = some (k - 1) := by
    have key : ∀ j : Nat, j < 98 → ((rowAt ((j + 1 : Nat) : Int)).name.toList == (rowAt (k : Int)).name.data.toList) = decide (j = k - 1) := by
      intro j hj
      have := names_apart ⟨j, hj⟩ ⟨k - 1, by omega⟩
      unfold nameL at this
      simp only [show k - 1 + 1 = k by omega] at this
      rw [Lib.toList_data, this]
      simp
    rw [List.find?_range_eq_some]
    refine ⟨by rw [key _ (by omega)]; simp, by simp; omega, fun j hj => ?_⟩
    rw [key j (by omega)]
    simp; omega
  unfold findS
  rw [hf]
  simp only [show k - 1 + 1 = k by omega]

/-- The registers' names, read. -/
theorem regNo_reg (n : Int) (h0 : 0 ≤ n) (h1 : n ≤ 31) : ∃ k : Nat, n = (k : Int) ∧ regNo (regS n) = some k := by
  obtain ⟨k, rfl⟩ := Int.eq_ofNat_of_zero_le h0
  have key : ∀ i : Fin 32, regNo (regS ((i.val : Nat) : Int)) = some i.val := by decide +kernel
  exact ⟨k, rfl, key ⟨k, by omega⟩⟩
theorem named_reg (n : Int) (h0 : 0 ≤ n) (h1 : n ≤ 31) (r : Rd) : namedR (regS n) r = (n, r) := by
  obtain ⟨k, rfl, h⟩ := regNo_reg n h0 h1
  unfold namedR
  rw [h]

theorem next_cons {p : List UInt8} (h : Solid p) (t : List (List UInt8)) (b : Bool) : nextR ⟨p :: t, b⟩ = (p, ⟨t, b⟩) := by
  show (trimT p, _) = _
  rw [trimT_solid h]
theorem reg_cons (n : Int) (h0 : 0 ≤ n) (h1 : n ≤ 31) (t : List (List UInt8)) (b : Bool) : regR ⟨regS n :: t, b⟩ = (n, ⟨t, b⟩) := by
  unfold regR
  rw [next_cons (reg_solid n)]
  exact named_reg n h0 h1 _
theorem num_cons (s : List UInt8) (n : Int) (hs : Solid s) (hp : parseI s = some n) (t : List (List UInt8)) : numR ⟨s :: t, false⟩ = (n, ⟨t, false⟩) := by
  unfold numR countedR
  rw [next_cons hs]
  simp [hp]
theorem csr_cons (s : List UInt8) (n : Int) (hs : Solid s) (hp : parseI s = some n) (h0 : 0 ≤ n) (h1 : n ≤ 4095) (t : List (List UInt8)) : csrR ⟨s :: t, false⟩ = (n, ⟨t, false⟩) := by
  unfold csrR
  rw [num_cons s n hs hp, if_neg (by simp; omega)]

theorem indexByte_app {l : List UInt8} {c : UInt8} (h : ∀ a ∈ l, a ≠ c) (r : List UInt8) : Lib.indexByte (l ++ c :: r) c = l.length := by
  induction l with
  | nil => simp [Lib.indexByte]
  | cons a t ih =>
    rw [List.cons_append]
    unfold Lib.indexByte
    rw [ih fun b hb => h b (List.mem_cons_of_mem _ hb)]
    have : (a == c) = false := by simpa using h a List.mem_cons_self
    rw [this]
    simp <;> omega

theorem dec_no (n : Int) : ∀ c ∈ decS n, c ≠ 40 ∧ c ≠ 41 := by
  have key : ∀ k : Nat, k < 10 → dch k ≠ 40 ∧ dch k ≠ 41 := by decide
  intro c hc
  unfold decS at hc
  split at hc
  · rcases List.mem_cons.1 hc with rfl | hc
    · decide
    · obtain ⟨k, hk, rfl⟩ := digs_mem 10 20 _ c (by omega) hc
      exact key k hk
  · obtain ⟨k, hk, rfl⟩ := digs_mem 10 20 _ c (by omega) hc
    exact key k hk

/-- A place as it is printed: what stands ahead, what stands inside. -/
theorem place_parts (d g : List UInt8) (hd : ∀ c ∈ d, c ≠ 40) : Lib.indexByte (d ++ brS g) 40 = d.length ∧ Lib.hasSuffix (d ++ brS g) [41] = true ∧ ahead (d ++ brS g) = trimT d ∧ inside (d ++ brS g) = trimT g := by
  have hi : Lib.indexByte (d ++ brS g) 40 = d.length := indexByte_app hd _
  refine ⟨hi, ?_, ?_, ?_⟩
  · unfold Lib.hasSuffix brS
    rw [List.isSuffixOf_iff_suffix]
    exact ⟨d ++ 40 :: g, by simp⟩
  · unfold ahead
    rw [hi]
    simp
  · unfold inside
    rw [hi]
    simp only [Int.toNat_natCast]
    unfold brS
    congr 1
    have e1 : (d ++ 40 :: (g ++ [41])).drop (d.length + 1) = g ++ [41] := by
      rw [List.drop_append]
      simp
    have e2 : (d ++ 40 :: (g ++ [41])).length - 1 - (d.length + 1) = g.length := by simp; omega
    rw [e1, e2, List.take_left]

theorem place_cons (bare : Bool) (d g : List UInt8) (n k : Int) (hs : Solid (d ++ brS g)) (hd : ∀ c ∈ d, c ≠ 40) (hb : bare = true → d = []) (hn : bare = false → trimT d = d ∧ parseI d = some n) (hg : trimT g = g) (hk : ∀ r, namedR g r = (k, r)) (t : List (List UInt8)) :
    placeR bare ⟨(d ++ brS g) :: t, false⟩ = ((if bare then 0 else n, k), ⟨t, false⟩) := by
  obtain ⟨h1, h2, h3, h4⟩ := place_parts d g hd
  unfold placeR placeA
  rw [next_cons hs]
  dsimp only
  have hno : ¬ noPlace bare (d ++ brS g) := by
    unfold noPlace
    rw [h1, h2]
    rintro (h | h | ⟨h, h'⟩)
    · omega
    · cases h
    · rw [hb h] at h'; simp at h'
  rw [if_neg hno, h3, h4, hg]
  cases bare with
  | true => simp [hk]
  | false =>
    obtain ⟨e1, e2⟩ := hn rfl
    rw [e1]
    unfold countedR
    simp [hk, e2]


/-- What a right instruction bears. -/
theorem right_bounds (x : Ins) (hr : right x = true) : (1 ≤ x.op ∧ x.op ≤ 98) ∧ (0 ≤ x.rd ∧ x.rd ≤ 31) ∧ (0 ≤ x.rs1 ∧ x.rs1 ≤ 31) ∧ (0 ≤ x.rs2 ∧ x.rs2 ≤ 31) ∧ (0 ≤ x.csr ∧ x.csr ≤ 4095) ∧ (-2147483648 ≤ x.imm ∧ x.imm ≤ 2147483647) := by
  have hk : known x.op = true := by simp [right] at hr; exact hr.1
  have hb : 1 ≤ x.op ∧ x.op ≤ 98 := by simpa [known] using hk
  have h := hr
  rw [right_eq] at h
  have him : -2147483648 ≤ x.imm ∧ x.imm ≤ 2147483647 := by
    have h' := h
    simp only [rright, rrightBy, partC, Bool.and_eq_true, decide_eq_true_eq] at h'
    obtain ⟨_, _, _, _, ⟨h1, h2⟩, _⟩ := h'
    have hi : -2147483648 ≤ (immR (rowAt x.op).form).a ∧ (immR (rowAt x.op).form).b ≤ 2147483647 := by
      rcases form_ok x.op hb.1 hb.2 with e | e | e | e | e | e | e | e | e | e | e | e | e | e | e | e <;> rw [e] <;> decide
    omega
  simp only [rright, rrightBy, inRange, Bool.and_eq_true, decide_eq_true_eq] at h
  exact ⟨hb, by omega, by omega, by omega, by omega, him⟩

theorem tdiv_bd (a : Int) (h0 : -2147483648 ≤ a) (h1 : a ≤ 2147483647) : -524288 ≤ a.tdiv 4096 ∧ a.tdiv 4096 ≤ 524287 ∧ (a.tmod 4096 = 0 → a.tdiv 4096 * 4096 = a) := by
  have hm := Int.tmod_add_tdiv_mul a 4096
  rcases Int.le_total 0 a with h | h
  · rw [Int.tdiv_eq_ediv_of_nonneg h] at *
    exact ⟨by omega, by omega, fun hz => by omega⟩
  · obtain ⟨m, rfl⟩ : ∃ m, a = -m := ⟨-a, by omega⟩
    rw [Int.neg_tdiv, Int.tdiv_eq_ediv_of_nonneg (by omega)] at *
    exact ⟨by omega, by omega, fun hz => by omega⟩

/-- Read back: what an instruction of its form takes. -/
theorem parts_back (x : Ins) (hr : right x = true) : partsR ⟨x.op, 0, 0, 0, 0, 0, x.aq, x.rl⟩ ⟨partsS (rowAt x.op).form x, false⟩ = (x, ⟨[], false⟩) := by
  obtain ⟨hb, hrd, hrs1, hrs2, hcsr, himm⟩ := right_bounds x hr
  have hrb : rightBy (partsOf (rowAt x.op).form) x = true := by simp [right] at hr; exact hr.2
  have rd := fun t b => reg_cons x.rd hrd.1 hrd.2 t b
  have rs1 := fun t b => reg_cons x.rs1 hrs1.1 hrs1.2 t b
  have rs2 := fun t b => reg_cons x.rs2 hrs2.1 hrs2.2 t b
  have dec := fun t => num_cons (decS x.imm) x.imm (dec_solid _) (parseI_dec x.imm (by omega) (by omega)) t
  have htd := tdiv_bd x.imm himm.1 himm.2
  have dec4 := fun t => num_cons (decS (x.imm.tdiv 4096)) (x.imm.tdiv 4096) (dec_solid _) (parseI_dec _ (by omega) (by omega)) t
  have csr := fun t => csr_cons (hexS x.csr.toNat) x.csr (hex_solid _) (by rw [parseI_hex _ (by omega)]; congr 1; omega) hcsr.1 hcsr.2 t
  have pl0 := fun t => place_cons false (decS x.imm) (regS x.rs1) x.imm x.rs1 (app_solid _ _ (dec_solid _) (br_solid _ (reg_solid _))) (fun c hc => (dec_no _ c hc).1) (by simp) (fun _ => ⟨trimT_solid (dec_solid _), parseI_dec x.imm (by omega) (by omega)⟩) (trimT_solid (reg_solid _)) (fun r => named_reg x.rs1 hrs1.1 hrs1.2 r) t
  have pl1 := fun t => place_cons true [] (regS x.rs1) 0 x.rs1 (br_solid _ (reg_solid _)) (by simp) (by simp) (by simp) (trimT_solid (reg_solid _)) (fun r => named_reg x.rs1 hrs1.1 hrs1.2 r) t
  simp only [List.nil_append] at pl1
  obtain ⟨op, xrd, xrs1, xrs2, imm, xcsr, aq, rl⟩ := x
  dsimp only at *
  have hf := form_ok op hb.1 hb.2
  unfold partsR partsS
  dsimp only
  generalize (rowAt op).form = f at *
  rcases hf with rfl | rfl | rfl | rfl | rfl | rfl | rfl | rfl | rfl | rfl | rfl | rfl | rfl | rfl | rfl | rfl
  all_goals
    simp only [rightBy, partsOf, regOk, Int.reduceBEq, Bool.false_eq_true, ↓reduceIte, Bool.and_eq_true, decide_eq_true_eq, Bool.true_or, Bool.false_or, Bool.not_eq_true', Bool.or_eq_true] at hrb
    simp [rd, rs1, rs2, dec, dec4, csr, pl0, pl1]
  all_goals first | omega | (have h4 := htd.2.2 (by omega); unfold wrap64; omega)

theorem suf_chars (aq rl : Bool) : ∀ c ∈ sufS aq rl, c ≠ 32 ∧ c ≠ 9 ∧ c.toNat < 128 := by cases aq <;> cases rl <;> decide
theorem suf_len (aq rl : Bool) : (sufS aq rl).length ≤ 5 := by cases aq <;> cases rl <;> decide

theorem joinL_ne {ps : List (List UInt8)} (h : ps ≠ []) (hs : ∀ p ∈ ps, Solid p) : joinL ps ≠ [] := by
  cases ps with
  | nil => exact absurd rfl h
  | cons a t =>
    have ha := (hs a List.mem_cons_self).1
    cases t with
    | nil => exact ha
    | cons b l => simp [joinL, ha]
theorem head_app {l : List UInt8} (r : List UInt8) (h : l ≠ []) : (l ++ r).head? = l.head? := by
  cases l with
  | nil => exact absurd rfl h
  | cons a t => rfl
theorem last_app (l : List UInt8) {r : List UInt8} (h : r ≠ []) : (l ++ r).getLast? = r.getLast? := by
  cases hr : r.getLast? with
  | none => exact absurd (List.getLast?_eq_none_iff.1 hr) h
  | some a => rw [List.getLast?_append, hr]; rfl
theorem joinL_head {ps : List (List UInt8)} (hs : ∀ p ∈ ps, Solid p) : ∀ a, (joinL ps).head? = some a → NB a := by
  intro c hc
  cases ps with
  | nil => simp [joinL] at hc
  | cons a t =>
    have ha := hs a List.mem_cons_self
    have hm : c ∈ a := by
      cases t with
      | nil => exact List.mem_of_mem_head? hc
      | cons b l =>
        rw [joinL, head_app _ ha.1] at hc
        exact List.mem_of_mem_head? hc
    exact ⟨(ha.2 c hm).1, (ha.2 c hm).2.1⟩
theorem joinL_last : ∀ {ps : List (List UInt8)} (hs : ∀ p ∈ ps, Solid p), ∀ a, (joinL ps).getLast? = some a → NB a := by
  intro ps
  induction ps with
  | nil => intro _ a h; simp [joinL] at h
  | cons p t ih =>
    intro hs a ha
    cases t with
    | nil =>
      have h := hs p List.mem_cons_self
      have hm : a ∈ p := List.mem_of_getLast? ha
      exact ⟨(h.2 a hm).1, (h.2 a hm).2.1⟩
    | cons b l =>
      have hne : joinL (b :: l) ≠ [] := joinL_ne (by simp) (fun q hq => hs q (List.mem_cons_of_mem _ hq))
      rw [joinL, last_app _ (by simp), List.getLast?_cons_of_ne_nil hne] at ha
      exact ih (fun q hq => hs q (List.mem_cons_of_mem _ hq)) a ha

/-- Each instruction is read from its own text. -/
theorem parse_text (x : Ins) (hr : right x = true) : parseF (textS x) = some x := by
  obtain ⟨hb, _⟩ := right_bounds x hr
  have hsol := parts_solid (rowAt x.op).form x
  have hback := parts_back x hr
  obtain ⟨k, hk, k1, k2, hname, hchars, _⟩ := fin_op (P := fun k => nameL k ≠ [] ∧ ((nameL k).all fun c => c != 32 && c != 9 && c != 44 && decide (c.toNat < 128)) = true ∧ (nameL k).length ≤ 20) names_ok x.op hb.1 hb.2
  obtain ⟨k', hk', _, _, hord⟩ := fin_op (P := fun k => ∀ aq rl : Bool, orderedS (nameL k ++ sufS aq rl) = (nameL k, aq, rl)) names_ordered x.op hb.1 hb.2
  obtain rfl : k' = k := by omega
  have hfind := findS_name x.op hb.1 hb.2
  have hnm : (rowAt x.op).name.data.toList = nameL k' := by unfold nameL; rw [hk]
  have hnb : ∀ c ∈ nameL k' ++ sufS x.aq x.rl, NB c := by
    intro c hc
    rcases List.mem_append.1 hc with hc | hc
    · have := List.all_eq_true.1 hchars c hc
      simp only [Bool.and_eq_true, bne_iff_ne, ne_eq] at this
      exact ⟨this.1.1.1, this.1.1.2⟩
    · exact ⟨(suf_chars _ _ c hc).1, (suf_chars _ _ c hc).2.1⟩
  have hne : nameL k' ++ sufS x.aq x.rl ≠ [] := by simp [hname]
  have hhead : headS (textS x) = (nameL k' ++ sufS x.aq x.rl, joinL (partsS (rowAt x.op).form x)) := by
    unfold headS textS
    rw [hnm]
    by_cases hp : partsS (rowAt x.op).form x = []
    · rw [if_pos hp, List.append_nil, hp]
      have e : trimT (nameL k' ++ sufS x.aq x.rl) = nameL k' ++ sufS x.aq x.rl := trimT_id (fun a ha => hnb a (List.mem_of_mem_head? ha)) (fun a ha => hnb a (List.mem_of_getLast? ha))
      rw [e, indexAny_no hnb]
      rfl
    · rw [if_neg hp]
      have hj := joinL_ne hp hsol
      have e : trimT (nameL k' ++ sufS x.aq x.rl ++ 32 :: joinL (partsS (rowAt x.op).form x)) = nameL k' ++ sufS x.aq x.rl ++ 32 :: joinL (partsS (rowAt x.op).form x) := by
        refine trimT_id (fun a ha => ?_) (fun a ha => ?_)
        · rw [head_app _ hne] at ha
          exact hnb a (List.mem_of_mem_head? ha)
        · rw [last_app _ (by simp), List.getLast?_cons_of_ne_nil hj] at ha
          exact joinL_last hsol a ha
      rw [e, indexAny_at hnb, if_neg (by omega), Int.toNat_natCast, List.take_left, List.drop_left, trimT_cons hj (joinL_head hsol) (joinL_last hsol)]
  have hstart : startR (joinL (partsS (rowAt x.op).form x)) = ⟨partsS (rowAt x.op).form x, false⟩ := by
    unfold startR
    by_cases hp : partsS (rowAt x.op).form x = []
    · rw [hp]; rfl
    · rw [if_neg (joinL_ne hp hsol), split_comma, splitC_join _ hp (fun p hp c hc => ((hsol p hp).2 c hc).2.2)]
  unfold parseF readS
  rw [hhead]
  dsimp only
  rw [hord, hstart, ← hnm, hfind, if_neg (by omega)]
  dsimp only
  rw [hback, if_neg (by simp [hr])]

end Go.Proofs.YteidojpklpfdeaaDoor
