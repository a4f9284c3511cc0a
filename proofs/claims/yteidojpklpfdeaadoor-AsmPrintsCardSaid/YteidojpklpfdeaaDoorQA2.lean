-- Written by a program of this session (wip/tools/xprint.py) out of the translation, over contracts proved by hand. Lean checks it.
import Derived.Test.YteidojpklpfdeaaDoorQA0
namespace Go.Proofs.YteidojpklpfdeaaDoorX.QA
open Go.RowKit Go.Proofs.YteidojpklpfdeaaDoorW.PrintWords Go.Proofs.YteidojpklpfdeaaDoorW.PrintLast Go.Proofs.YteidojpklpfdeaaDoorW.PrintMore
attribute [local go_sem] max2_int min2_int max_two min_two max_three min_three max_four min_four   -- for this text's walks alone
set_option linter.unusedVariables false
set_option linter.unusedSimpArgs false

/-! ### inst_Right: function 11 (given) -/
def inst_Right.f (a0_0 a0_1 a0_2 a0_3 a0_4 a0_5 : Int) (a0_6 a0_7 : Bool) : Option Int := some (Go.Proofs.YteidojpklpfdeaaDoor.errOf (Go.Proofs.YteidojpklpfdeaaDoor.right (⟨a0_0, a0_1, a0_2, a0_3, a0_4, a0_5, a0_6, a0_7⟩ : Go.Proofs.YteidojpklpfdeaaDoor.Ins)))
theorem inst_Right.calls (a0_0 a0_1 a0_2 a0_3 a0_4 a0_5 : Int) (a0_6 a0_7 : Bool) (r : Int) (w : World) (h : inst_Right.f a0_0 a0_1 a0_2 a0_3 a0_4 a0_5 a0_6 a0_7 = some r) :
    Calls Tryd.prog 11 #[.agg #[.int .i64 a0_0, .int .i64 a0_1, .int .i64 a0_2, .int .i64 a0_3, .int .i64 a0_4, .int .i64 a0_5, .bool a0_6, .bool a0_7]] w fun e w' => e = .returned (.int .i64 r) ∧ Below w.heap.size w w' := by
  obtain rfl := Option.some.inj h
  exact Go.Proofs.YteidojpklpfdeaaDoor.right_any (⟨a0_0, a0_1, a0_2, a0_3, a0_4, a0_5, a0_6, a0_7⟩ : Go.Proofs.YteidojpklpfdeaaDoor.Ins) w


/-! ### asm_Reg: function 22 (given) -/
def asm_Reg.f (a0 : Int) : Option ByteArray := if -9223372036854775808 ≤ a0 ∧ a0 < 9223372036854775808 then some ⟨(Go.Proofs.YteidojpklpfdeaaDoor.regS a0).toArray⟩ else none
theorem asm_Reg.calls (a0 : Int) (r : ByteArray) (w : World) (h : asm_Reg.f a0 = some r) :
    Calls Tryd.prog 22 #[.int .i64 a0] w fun e w' => e = .returned (.string r) ∧ Drawn0 w w' := by
  unfold asm_Reg.f at h
  split at h
  · next hb =>
    obtain rfl := Option.some.inj h
    exact (Go.Proofs.YteidojpklpfdeaaDoor.reg_text a0 w hb.1 hb.2).mono fun e w' ⟨h1, h2⟩ => ⟨h1, ⟨⟨0, h2.symm⟩⟩⟩
  · cases h


/-! ### inst_Name: function 32 (given) -/
def inst_Name.f (a0 : Int) : Option ByteArray := some (if Go.Proofs.YteidojpklpfdeaaDoor.known a0 then (Go.Proofs.YteidojpklpfdeaaDoor.rowAt a0).name else ⟨#[]⟩)
theorem inst_Name.calls (a0 : Int) (r : ByteArray) (w : World) (h : inst_Name.f a0 = some r) :
    Calls Tryd.prog 32 #[.int .i64 a0] w fun e w' => e = .returned (.string r) ∧ Below w.heap.size w w' := by
  obtain rfl := Option.some.inj h
  exact Go.Proofs.YteidojpklpfdeaaDoor.name_any a0 w


/-! ### word_Dec: function 33 (given) -/
def word_Dec.f (a0 : Int) : Option ByteArray := if -9223372036854775808 ≤ a0 ∧ a0 < 9223372036854775808 then some ⟨(Go.Proofs.YteidojpklpfdeaaDoor.decS a0).toArray⟩ else none
theorem word_Dec.calls (a0 : Int) (r : ByteArray) (w : World) (h : word_Dec.f a0 = some r) :
    Calls Tryd.prog 33 #[.int .i64 a0] w fun e w' => e = .returned (.string r) ∧ Drawn0 w w' := by
  unfold word_Dec.f at h
  split at h
  · next hb =>
    obtain rfl := Option.some.inj h
    exact (Go.Proofs.YteidojpklpfdeaaDoor.dec_any a0 w hb.1 hb.2).mono fun e w' ⟨h1, h2⟩ => ⟨h1, ⟨⟨0, h2.symm⟩⟩⟩
  · cases h


/-! ### word_Hex: function 34 (given) -/
def word_Hex.f (a0 : Int) : Option ByteArray := if 0 ≤ a0 ∧ a0 < 18446744073709551616 then some ⟨(Go.Proofs.YteidojpklpfdeaaDoor.hexS a0.toNat).toArray⟩ else none
theorem word_Hex.calls (a0 : Int) (r : ByteArray) (w : World) (h : word_Hex.f a0 = some r) :
    Calls Tryd.prog 34 #[.int .u64 a0] w fun e w' => e = .returned (.string r) ∧ Drawn0 w w' := by
  unfold word_Hex.f at h
  split at h
  · next hb =>
    obtain rfl := Option.some.inj h
    obtain ⟨n, rfl⟩ := Int.eq_ofNat_of_zero_le hb.1
    exact (Go.Proofs.YteidojpklpfdeaaDoor.hex_any n w (by omega)).mono fun e w' ⟨h1, h2⟩ => ⟨h1, ⟨⟨0, h2.symm⟩⟩⟩
  · cases h


/-! ### strings_Join: function 74 (given) -/
def strings_Join.f (l0 : List ByteArray) (a1 : ByteArray) : Option ByteArray :=
  if l0 ≠ [] ∧ l0.length ≤ 1000 ∧ (Lib.join (l0.map (·.data.toList)) a1.data.toList).length ≤ 1000000 then some ⟨(Lib.join (l0.map (·.data.toList)) a1.data.toList).toArray⟩ else none
theorem strings_Join.calls (A0 : Option Addr) (c0 : Nat) (l0 : List ByteArray) (a1 : ByteArray) (r : ByteArray) (w : World) (hr0 : Kd.C Kd.string w A0 l0.length l0) (hc0 : l0.length ≤ c0) (h : strings_Join.f l0 a1 = some r) :
    Calls Tryd.prog 74 #[.slice A0 l0.length c0, .string a1] w fun e w' => e = .returned (.string r) ∧ Below w.heap.size w w' := by
  unfold strings_Join.f at h
  split at h
  · next hb =>
    obtain rfl := Option.some.inj h
    have hpos : 0 < l0.length := List.length_pos_iff.2 hb.1
    have hcell : ∀ (i : Nat) (hi : i < l0.length), ∃ ad, A0 = some ad ∧ w.cell? (ad.add i) = some (.string (l0[i])) := by
      intro i hi
      obtain ⟨ad, c, e, _, hK, hc0⟩ := Kd.C_get hr0 ByteArray.empty (i : Int) (by omega) (by omega)
      have hK' : c = [Value.string (l0.getD i ByteArray.empty)] := hK
      refine ⟨ad, e, ?_⟩
      have := hc0 0 (.string (l0.getD i ByteArray.empty)) (by rw [hK']; rfl)
      have e1 : l0.getD i ByteArray.empty = l0[i] := by simp [List.getD_eq_getElem?_getD, hi]
      rw [e1] at this
      have e2 : ((i : Int).toNat * Kd.string.sz + 0) = i := by show (i : Int).toNat * 1 + 0 = i; omega
      rw [e2] at this
      exact this
    obtain ⟨ad, rfl, h0⟩ := hcell 0 hpos
    obtain ⟨bk, off, sd⟩ := ad
    have hsd : sd = none := by
      cases sd with
      | none => rfl
      | some z => exfalso; simp only [World.cell?, Addr.add] at h0; split at h0 <;> cases h0
    subst hsd
    have hbk : bk < w.heap.size := by
      apply Classical.byContradiction
      intro hn
      have : w.heap[bk]? = none := Array.getElem?_eq_none (by omega)
      simp [World.cell?, Addr.add, this] at h0
    refine Tryd.strings_Join bk off c0 l0 a1 w ?_ hbk (by omega) hc0 (by omega)
    intro j x hx
    obtain ⟨hj, rfl⟩ := List.getElem?_eq_some_iff.1 hx
    obtain ⟨ad, e, hc⟩ := hcell j hj
    obtain rfl := Option.some.inj e
    have e3 : (⟨bk, off, none⟩ : Addr).add j = ⟨bk, off + j, none⟩ := by simp only [Addr.add]; split <;> simp_all
    rwa [e3] at hc
  · cases h


/-! ### asm_join: function 35 -/
def asm_join.f (a0 : ByteArray) (l1 : List ByteArray) : Option (ByteArray) := if (l1.length : Int) = 0 then (some a0) else (if a0.size + 1 ≤ 9223372036854775807 then ((strings_Join.f l1 (⟨#[44]⟩ : ByteArray)).bind fun t101 => (if (a0 ++ (⟨#[32]⟩ : ByteArray)).size + t101.size ≤ 9223372036854775807 then (some ((a0 ++ (⟨#[32]⟩ : ByteArray)) ++ t101)) else (none))) else (none))
set_option maxHeartbeats 8000000 in
set_option maxRecDepth 100000 in
theorem asm_join.calls (a0 : ByteArray) (A1 : Option Addr) (c1 : Nat) (l1 : List ByteArray) (r : ByteArray) (w : World) (hr1 : Kd.C Kd.string w A1 l1.length l1) (hc1 : l1.length ≤ c1) (h : asm_join.f a0 l1 = some r) :
    Calls Tryd.prog 35 #[.string a0, .slice A1 l1.length c1] w fun e w' => e = .returned (.string r) ∧ Below w.heap.size w w' := by
  have HR1 := Aside0.mk hr1
  have HC1 := Aside0.mk hc1
  clear hr1 hc1
  have HB := Aside0.mk (Below.refl w.heap.size w)
  have H : (if (l1.length : Int) = 0 then (some a0) else (if a0.size + 1 ≤ 9223372036854775807 then ((strings_Join.f l1 (⟨#[44]⟩ : ByteArray)).bind fun t101 => (if (a0 ++ (⟨#[32]⟩ : ByteArray)).size + t101.size ≤ 9223372036854775807 then (some ((a0 ++ (⟨#[32]⟩ : ByteArray)) ++ t101)) else (none))) else (none))) = some r := h
  clear h
  by_cases c3 : (l1.length : Int) = 0
  · rw [if_pos c3] at H
    have c3b0 : ((l1.length : Int) == 0) = true := beq_iff_eq.mpr c3
    have c3b1 : ((l1.length : Int) != 0) = false := bne_eq_false_iff_eq.mpr c3
    clear c3
    obtain rfl := Option.some.inj H
    go_enter Tryd.func35, Tryd.ntmps35
    go_wp2
    go_ret
    exact ⟨by first | rfl | (simp [errW_none, errW_some] <;> rfl) | (simp [*, errW_none, errW_some] <;> rfl), by repeat (first | (with_reducible first | exact HB.out | apply below_alloc | apply pw_below_drewN | apply below_drew1) | exact HB.out)⟩
  · rw [if_neg c3] at H
    have c3b0 : ((l1.length : Int) == 0) = false := beq_eq_false_iff_ne.mpr c3
    have c3b1 : ((l1.length : Int) != 0) = true := bne_iff_ne.mpr c3
    have c3b2 : ¬ (l1 = []) := fun h_ => c3 (by rw [h_]; rfl)
    by_cases c4 : a0.size + 1 ≤ 9223372036854775807
    · rw [if_pos c4] at H
      have c4b0 := eq_true c4
      have c4b1 : decide (a0.size + 1 ≤ 9223372036854775807) = true := decide_eq_true c4
      try have c4b2 : (9223372036854775807 < a0.size + 1) = False := eq_false (Nat.not_lt.2 c4)
      replace H := Option.bind_eq_some_iff.mp H
      obtain ⟨t101, A50, H⟩ := H
      replace H : (if (a0 ++ (⟨#[32]⟩ : ByteArray)).size + t101.size ≤ 9223372036854775807 then (some ((a0 ++ (⟨#[32]⟩ : ByteArray)) ++ t101)) else (none)) = some r := H
      have A5 := Aside0.mk A50
      clear A50
      by_cases c6 : (a0 ++ (⟨#[32]⟩ : ByteArray)).size + t101.size ≤ 9223372036854775807
      · rw [if_pos c6] at H
        have c6b0 := eq_true c6
        have c6b1 : decide ((a0 ++ (⟨#[32]⟩ : ByteArray)).size + t101.size ≤ 9223372036854775807) = true := decide_eq_true c6
        try have c6b3 : (9223372036854775807 < a0.size + 1 + t101.size) = False := eq_false (Nat.not_lt.2 (by have h_ := c6; simp only [ByteArray.size_append] at h_; exact h_))
        try have c6b2 : (9223372036854775807 < (a0 ++ (⟨#[32]⟩ : ByteArray)).size + t101.size) = False := eq_false (Nat.not_lt.2 c6)
        obtain rfl := Option.some.inj H
        go_enter Tryd.func35, Tryd.ntmps35
        go_wp2_with (first | ((with_reducible refine gate_callee (f := 74) rfl ?_); refine goesL_ (some 12) rfl rfl Tryd.func74 (by kernel_rfl) rfl #[.slice A1 l1.length c1, .string (⟨#[44]⟩ : ByteArray)] rfl (by (try simp only [List.map_toArray, List.map_cons, List.map_nil]); first | done | rfl | (simp only [List.length_drop, List.length_take]; rfl)) ?_; (with_reducible refine (strings_Join.calls _ _ l1 (⟨#[44]⟩ : ByteArray) t101 _ ?side1 ?side2 A5.out).mono ?_); (case side1 => repeat (first | exact HR1.out | (with_reducible refine Kd.C_alloc ?_ _) | (with_reducible refine Kd.C_drewN ?_ _) | (with_reducible refine Kd.C_drew ?_))); (case side2 => exact HC1.out); rintro e w7 ⟨rfl, hb⟩; refine ⟨_, rfl, ?_⟩; have n0_ := Aside0.mk (below_step (by repeat (first | (with_reducible first | exact HB.out | apply below_alloc | apply pw_below_drewN | apply below_drew1) | exact HB.out)) hb); clear HB; have HB := n0_; clear n0_; (try clear hb); (try clear hb2); (try clear hk); (try clear hi)))
        go_ret
        exact ⟨by first | rfl | (simp [errW_none, errW_some] <;> rfl) | (simp [*, errW_none, errW_some] <;> rfl), by repeat (first | (with_reducible first | exact HB.out | apply below_alloc | apply pw_below_drewN | apply below_drew1) | exact HB.out)⟩
      · rw [if_neg c6] at H
        exact absurd H (by simp)
    · rw [if_neg c4] at H
      exact absurd H (by simp)

/-! ### inst_Loads: function 36 (given) -/
def inst_Loads.f (a0 : Int) : Option Bool := some (Go.Proofs.YteidojpklpfdeaaDoor.loadsB a0)
theorem inst_Loads.calls (a0 : Int) (r : Bool) (w : World) (h : inst_Loads.f a0 = some r) :
    Calls Tryd.prog 36 #[.int .i64 a0] w fun e w' => e = .returned (.bool r) ∧ Below w.heap.size w w' := by
  obtain rfl := Option.some.inj h
  exact Go.Proofs.YteidojpklpfdeaaDoor.loads_any a0 w


/-! ### inst_Stores: function 37 (given) -/
def inst_Stores.f (a0 : Int) : Option Bool := some (Go.Proofs.YteidojpklpfdeaaDoor.storesB a0)
theorem inst_Stores.calls (a0 : Int) (r : Bool) (w : World) (h : inst_Stores.f a0 = some r) :
    Calls Tryd.prog 37 #[.int .i64 a0] w fun e w' => e = .returned (.bool r) ∧ Below w.heap.size w w' := by
  obtain rfl := Option.some.inj h
  exact Go.Proofs.YteidojpklpfdeaaDoor.stores_any a0 w


/-! ### inst_Branches: function 38 (given) -/
def inst_Branches.f (a0 : Int) : Option Bool := some (Go.Proofs.YteidojpklpfdeaaDoor.branchesB a0)
theorem inst_Branches.calls (a0 : Int) (r : Bool) (w : World) (h : inst_Branches.f a0 = some r) :
    Calls Tryd.prog 38 #[.int .i64 a0] w fun e w' => e = .returned (.bool r) ∧ Below w.heap.size w w' := by
  obtain rfl := Option.some.inj h
  exact Go.Proofs.YteidojpklpfdeaaDoor.branches_any a0 w


/-! ### inst_Systems: function 39 (given) -/
def inst_Systems.f (a0 : Int) : Option Bool := some (Go.Proofs.YteidojpklpfdeaaDoor.systemsB a0)
theorem inst_Systems.calls (a0 : Int) (r : Bool) (w : World) (h : inst_Systems.f a0 = some r) :
    Calls Tryd.prog 39 #[.int .i64 a0] w fun e w' => e = .returned (.bool r) ∧ Below w.heap.size w w' := by
  obtain rfl := Option.some.inj h
  exact Go.Proofs.YteidojpklpfdeaaDoor.systems_any a0 w


/-! ### asm_suffix: function 40 (given) -/
def asm_suffix.f (a0_0 a0_1 a0_2 a0_3 a0_4 a0_5 : Int) (a0_6 a0_7 : Bool) : Option ByteArray := some ⟨(Go.Proofs.YteidojpklpfdeaaDoor.sufS a0_6 a0_7).toArray⟩
theorem asm_suffix.calls (a0_0 a0_1 a0_2 a0_3 a0_4 a0_5 : Int) (a0_6 a0_7 : Bool) (r : ByteArray) (w : World) (h : asm_suffix.f a0_0 a0_1 a0_2 a0_3 a0_4 a0_5 a0_6 a0_7 = some r) :
    Calls Tryd.prog 40 #[.agg #[.int .i64 a0_0, .int .i64 a0_1, .int .i64 a0_2, .int .i64 a0_3, .int .i64 a0_4, .int .i64 a0_5, .bool a0_6, .bool a0_7]] w fun e w' => e = .returned (.string r) ∧ Below w.heap.size w w' := by
  obtain rfl := Option.some.inj h
  exact Go.Proofs.YteidojpklpfdeaaDoor.suffix_any (⟨a0_0, a0_1, a0_2, a0_3, a0_4, a0_5, a0_6, a0_7⟩ : Go.Proofs.YteidojpklpfdeaaDoor.Ins) w


/-! ### inst_Atomics: function 41 (given) -/
def inst_Atomics.f (a0 : Int) : Option Bool := some (Go.Proofs.YteidojpklpfdeaaDoor.atomicsB a0)
theorem inst_Atomics.calls (a0 : Int) (r : Bool) (w : World) (h : inst_Atomics.f a0 = some r) :
    Calls Tryd.prog 41 #[.int .i64 a0] w fun e w' => e = .returned (.bool r) ∧ Below w.heap.size w w' := by
  obtain rfl := Option.some.inj h
  exact Go.Proofs.YteidojpklpfdeaaDoor.atomics_any a0 w


/-! ### asm_numbered: function 42 (given) -/
def asm_numbered.f (a0 : Int) : Option Bool := some (Go.Proofs.YteidojpklpfdeaaDoor.numberedB a0)
theorem asm_numbered.calls (a0 : Int) (r : Bool) (w : World) (h : asm_numbered.f a0 = some r) :
    Calls Tryd.prog 42 #[.int .i64 a0] w fun e w' => e = .returned (.bool r) ∧ Drawn0 w w' := by
  obtain rfl := Option.some.inj h
  exact (Go.Proofs.YteidojpklpfdeaaDoor.numbered_any a0 w).mono fun e w' ⟨h1, h2⟩ => ⟨h1, ⟨⟨0, h2.symm⟩⟩⟩


end Go.Proofs.YteidojpklpfdeaaDoorX.QA
