/- vireotop.TopWords returns true: the walk. -/
import Derived.Test.YteidojpklpfdeaaDoorLawA
import Derived.Test.YteidojpklpfdeaaDoorMW
namespace Go.Proofs.YteidojpklpfdeaaDoor
open Go.RowKit Go.Proofs.YteidojpklpfdeaaDoorX.QA Go.Proofs.YteidojpklpfdeaaDoorW.PrintWords
attribute [local go_sem] setCell_drewN alloc_drewN
set_option linter.unusedVariables false
set_option linter.unusedSimpArgs false

theorem decF_decoded (x : Int) : Decoded x (decF x).1 (decF x).2 := by
  unfold decF
  cases h : (List.range 98).find? (fun j => hit x (rowAt ((j + 1 : Nat) : Int))) with
  | some j =>
    rw [List.find?_range_eq_some] at h
    obtain ⟨h1, h2, h3⟩ := h
    have h4 := List.mem_range.1 h2
    refine .inl ⟨j + 1, by omega, by omega, fun i i1 i2 => ?_, h1, rfl, rfl⟩
    have := h3 (i - 1) (by omega)
    rw [show i - 1 + 1 = i by omega] at this
    simpa using this
  | none =>
    rw [List.find?_range_eq_none] at h
    refine .inr ⟨fun i i1 i2 => ?_, rfl, rfl⟩
    have := h (i - 1) (by omega)
    rw [show i - 1 + 1 = i by omega] at this
    simpa using this

theorem decF_whose (v : Int) (h0 : 0 ≤ v) (h1 : v < 4294967296) : (∃ a, decF v = (a, 0) ∧ right a = true ∧ wordOf a = v) ∨ decF v = (zeroIns, 31) := by
  obtain ⟨W, rfl⟩ := Int.eq_ofNat_of_zero_le h0
  have hd := decF_decoded (W : Int)
  generalize decF (W : Int) = y at hd ⊢
  obtain ⟨a, c⟩ := y
  rcases decoded_whose W (by omega) a c hd with ⟨rfl, h2, h3⟩ | ⟨rfl, rfl⟩
  · exact .inl ⟨a, rfl, h2, h3⟩
  · exact .inr rfl

theorem print_any (x : Ins) (w : World) : Calls Tryd.prog 10 #[.agg #[.int .i64 x.op, .int .i64 x.rd, .int .i64 x.rs1, .int .i64 x.rs2, .int .i64 x.imm, .int .i64 x.csr, .bool x.aq, .bool x.rl]] w fun e w' => e = .returned (.string ⟨(if right x then textS x else []).toArray⟩) ∧ Below w.heap.size w w' := by
  cases hr : right x with
  | true => exact asm_Print.calls (0 + 1 + 1 + 1 + 1) x.op x.rd x.rs1 x.rs2 x.imm x.csr x.aq x.rl _ w (print_right x hr 0)
  | false => exact asm_Print.calls (0 + 1 + 1 + 1 + 1) x.op x.rd x.rs1 x.rs2 x.imm x.csr x.aq x.rl _ w (print_wrong x hr _)

/-- A row of numbers as it came in. -/
def IsRow (k : IntKind) (w : World) (a : Option Addr) (len cap : Nat) (zs : List Int) : Prop :=
  (a = none ∧ len = 0 ∧ cap = 0 ∧ zs = []) ∨
  ∃ x, a = some x ∧ len ≤ cap ∧ cap ≤ maxLen ∧ zs.length = cap ∧ (∀ i, i < zs.length → w.cell? (x.add i) = some (.int k (zs.getD i 0))) ∧ ∀ n ∈ zs, (Lit.int k n).wf = true

theorem add_plain (b off j : Nat) : (⟨b, off, none⟩ : Addr).add j = ⟨b, off + j, none⟩ := by simp only [Addr.add]; split <;> simp_all

theorem row_open {k : IntKind} {w : World} {a : Option Addr} {len cap : Nat} {zs : List Int} (h : IsRow k w a len cap zs) : len = 0 ∨ ∃ b off, a = some ⟨b, off, none⟩ ∧ b < w.heap.size ∧ len ≤ cap ∧ cap ≤ maxLen ∧ len ≤ zs.length ∧ (∀ j, j < len → w.cell? ⟨b, off + j, none⟩ = some (.int k (zs.getD j 0))) ∧ ∀ n ∈ zs, (Lit.int k n).wf = true := by
  rcases h with ⟨_, h, _, _⟩ | ⟨x, rfl, h1, h2, h3, h4, h5⟩
  · exact .inl h
  · by_cases hl : len = 0
    · exact .inl hl
    · right
      have h0 := h4 0 (by omega)
      obtain ⟨b, off, sp⟩ := x
      have hs : sp = none := by
        cases sp with
        | none => rfl
        | some z => exfalso; simp only [World.cell?, Addr.add] at h0; split at h0 <;> cases h0
      subst hs
      have hb : b < w.heap.size := by
        apply Classical.byContradiction
        intro hn
        have : w.heap[b]? = none := Array.getElem?_eq_none (by omega)
        simp [World.cell?, add_plain, this] at h0
      exact ⟨b, off, rfl, hb, h1, h2, by omega, fun j hj => by rw [← add_plain]; exact h4 j (by omega), h5⟩

theorem wf_u32 {n : Int} (h : (Lit.int .u32 n).wf = true) : 0 ≤ n ∧ n < 4294967296 := by
  have h' : IntKind.u32.min ≤ n ∧ n ≤ IntKind.u32.max := by simpa [Lit.wf] using h
  have e1 : IntKind.u32.min = 0 := rfl
  have e2 : IntKind.u32.max = 4294967295 := rfl
  omega

theorem neq_ins (x y : Ins) (w : World) : (binOp .neq 24 (.agg #[.int .i64 x.op, .int .i64 x.rd, .int .i64 x.rs1, .int .i64 x.rs2, .int .i64 x.imm, .int .i64 x.csr, .bool x.aq, .bool x.rl]) (.agg #[.int .i64 y.op, .int .i64 y.rd, .int .i64 y.rs1, .int .i64 y.rs2, .int .i64 y.imm, .int .i64 y.csr, .bool y.aq, .bool y.rl])).run Tryd.prog w = .ok (.bool (!decide (x = y))) w := by
  obtain ⟨a0, a1, a2, a3, a4, a5, a6, a7⟩ := x
  obtain ⟨b0, b1, b2, b3, b4, b5, b6, b7⟩ := y
  rw [run_neq_struct, run_equalIn_struct _ _ _ _ _ ins_flds ins_held]
  simp [Program.fieldsOf, Tryd.underlying24, Op.eqFields, go_sem]
  repeat' split <;> simp_all

theorem first_word : decF 5243027 = (⟨22, 1, 0, 0, 5, 0, false, false⟩, 0) := by decide +kernel
theorem first_text : textS ⟨22, 1, 0, 0, 5, 0, false, false⟩ = [97, 100, 100, 105, 32, 120, 49, 44, 120, 48, 44, 53] := by decide +kernel
theorem first_right : right ⟨22, 1, 0, 0, 5, 0, false, false⟩ = true := by decide +kernel

set_option maxHeartbeats 4000000 in
set_option maxRecDepth 100000 in
theorem words_some (b off len cap : Nat) (z : List Int) (w : World) (hb : b < w.heap.size) (h1 : len ≤ cap) (h2 : cap ≤ 9223372036854775807) (h3 : len ≤ z.length) (hc : ∀ j, j < len → w.cell? ⟨b, off + j, none⟩ = some (.int .u32 (z.getD j 0))) (hz : ∀ n ∈ z, 0 ≤ n ∧ n < 4294967296) :
    Calls Tryd.prog 3 #[.slice (some ⟨b, off, none⟩) len cap] w fun e w' => e = .returned (.bool true) ∧ Below w.heap.size w w' := by
  have HD := hid (fun w => decF_any 5243027 w (by decide) (by decide))
  rw [first_word] at HD
  have HP := hid (fun w => print_any ⟨22, 1, 0, 0, 5, 0, false, false⟩ w)
  rw [first_right, if_pos rfl, first_text] at HP
  have HC := hid hc; have HZ := hid hz; clear hc hz
  have HB := hid (Below.refl w.heap.size w)
  dsimp only [Ins.v] at HD
  go_enter Tryd.func3, Tryd.ntmps3
  go_wp2_with fail
  refine (HD.out _).mono ?_
  rintro e w1 ⟨rfl, hb1⟩
  have HB1 := hid (HB.out.trans hb1); clear hb1 HB
  go_wp2_with fail
  refine (HP.out _).mono ?_
  rintro e w2 ⟨rfl, hb2⟩
  have HB2 := hid ((HB1.out.alloc HB1.out.size _).trans (hb2.mono (by have := HB1.out.size; simp; omega))); clear hb2 HB1
  by_cases hlen : (100 : Int) < (len : Int)
  · go_wp2_with fail
    go_ret
    exact ⟨rfl, HB2.out⟩
  · go_wp2_with fail
    go_loopw [5] (fun i wr => ∃ k : Nat, k ≤ len ∧ i = .int .i64 k ∧ Below w.heap.size w wr) (fun i _ => len - (intOf i).toNat)
    case atStart => exact ⟨0, by omega, rfl, HB2.out⟩
    case round =>
      obtain ⟨k, hk, rfl, hbr⟩ := hrel
      by_cases hlt : k < len
      · have hcell := (hbr.cell (p := ⟨b, off + k, none⟩) hb).trans (HC.out k hlt)
        have hv : 0 ≤ z.getD k 0 ∧ z.getD k 0 < 4294967296 := by
          have hkz : k < z.length := by omega
          rw [List.getD_eq_getElem?_getD, List.getElem?_eq_getElem hkz, Option.getD_some]
          exact HZ.out _ (List.getElem_mem _)
        generalize hvv : z.getD k 0 = v at *
        have HVV := hid hvv; clear hvv
        have HBR := hid hbr; have HCELL := hid hcell; clear hbr
        have HDV := hid (fun w => decF_any v w hv.1 hv.2)
        rcases decF_whose v hv.1 hv.2 with ⟨a, ha, hra, hwa⟩ | ha
        · have HPA := hid (fun w => print_any a w)
          have HRA := hid (fun w => parse_known (textS a) w (ask_text a hra))
          have HEA := hid (fun w => encode_any a w)
          have HEQ := hid (fun w => neq_ins a a w)
          rw [ha] at HDV
          rw [hra, if_pos rfl] at HPA
          rw [parse_text a hra] at HRA
          rw [hra, if_pos rfl, hwa] at HEA
          simp only [decide_true, Bool.not_true] at HEQ
          have hrt : errOf true = 0 := rfl
          rw [hrt] at HEA
          unfold ParsePost at HRA
          generalize textS a = ta at *
          clear ha hra hwa hv hrt
          obtain ⟨a0, a1, a2, a3, a4, a5, a6, a7⟩ := a
          dsimp only [Ins.v, Option.getD_some, Option.isSome_some] at HDV HPA HRA HEA HEQ
          simp only [if_true] at HRA
          go_wp2_with fail
          refine (HDV.out _).mono ?_
          rintro e w3 ⟨rfl, hb3⟩
          have HB3 := hid (HBR.out.trans (hb3.mono HBR.out.size)); clear hb3 hcell
          go_wp2_with fail
          refine (HPA.out _).mono ?_
          rintro e w4 ⟨rfl, hb4⟩
          have hx4 : ∀ j, w4.cell? ⟨w3.heap.size, j, none⟩ = #[Value.int .i64 a0, .int .i64 a1, .int .i64 a2, .int .i64 a3, .int .i64 a4, .int .i64 a5, .bool a6, .bool a7][j]? := fun j => (hb4.cell (by simp)).trans (World.cell?_alloc_new _ _ _ _)
          have hz4 : w3.heap.size < w4.heap.size := by have := hb4.size; simp at this; omega
          have HB4 := hid ((HB3.out.alloc HB3.out.size _).trans (hb4.mono (by have := HB3.out.size; simp; omega))); clear hb4 HB3
          have HX4 := hid hx4; clear hx4
          go_wp2_with fail
          refine (HRA.out _).mono ?_
          rintro e w5 ⟨rfl, hb5⟩
          have HX5 := hid (fun j => (hb5.cell (p := ⟨w3.heap.size, j, none⟩) hz4).trans (HX4.out j))
          have hz5 : w3.heap.size < w5.heap.size := by have := hb5.size; omega
          have HB5 := hid (HB4.out.trans (hb5.mono HB4.out.size)); clear hb5 HB4 HX4 hz4
          go_wp2_with fail
          refine (HEA.out _).mono ?_
          rintro e w6 ⟨rfl, hb6⟩
          have hx6 := fun j => (hb6.cell (p := ⟨w3.heap.size, j, none⟩) (by simp; omega)).trans (show (World.alloc w5 _).cell? ⟨w3.heap.size, j, none⟩ = _ from (World.cell?_alloc_old _ _ _ (Nat.ne_of_lt hz5)).trans (HX5.out j))
          have hy6 : ∀ j, w6.cell? ⟨w5.heap.size, j, none⟩ = #[Value.int .i64 a0, .int .i64 a1, .int .i64 a2, .int .i64 a3, .int .i64 a4, .int .i64 a5, .bool a6, .bool a7][j]? := fun j => (hb6.cell (by simp)).trans (World.cell?_alloc_new _ _ _ _)
          have HB6 := hid ((HB5.out.alloc HB5.out.size _).trans (hb6.mono (by have := HB5.out.size; simp; omega))); clear hb6 HB5
          have hcell6 := (HB6.out.cell (p := ⟨b, off + k, none⟩) hb).trans (HC.out k hlt)
          rw [HVV.out] at hcell6
          have hq := HEQ.out
          have hg := ins_guard
          go_wp2_with fail
          go_roundw
          case rel => exact ⟨k + 1, by omega, by go_num, HB6.out⟩
          case measure => simp [intOf]; omega
        · have HPA := hid (fun w => print_any zeroIns w)
          have HRI := hid (fun w => right_any zeroIns w)
          have hrz : right zeroIns = false := by decide +kernel
          rw [ha] at HDV
          rw [hrz] at HPA HRI
          have hrt : errOf false = 30 := rfl
          rw [hrt] at HRI
          simp only [Bool.false_eq_true, if_false] at HPA
          clear ha hv hrt hrz
          dsimp only [Ins.v, zeroIns] at HDV HPA HRI
          go_wp2_with fail
          refine (HDV.out _).mono ?_
          rintro e w3 ⟨rfl, hb3⟩
          have HB3 := hid (HBR.out.trans (hb3.mono HBR.out.size)); clear hb3 hcell
          go_wp2_with fail
          refine (HPA.out _).mono ?_
          rintro e w4 ⟨rfl, hb4⟩
          have hx4 : ∀ j, w4.cell? ⟨w3.heap.size, j, none⟩ = #[Value.int .i64 0, .int .i64 0, .int .i64 0, .int .i64 0, .int .i64 0, .int .i64 0, .bool false, .bool false][j]? := fun j => (hb4.cell (by simp)).trans (World.cell?_alloc_new _ _ _ _)
          have HB4 := hid ((HB3.out.alloc HB3.out.size _).trans (hb4.mono (by have := HB3.out.size; simp; omega))); clear hb4 HB3
          go_wp2_with fail
          refine (HRI.out _).mono ?_
          rintro e w5 ⟨rfl, hb5⟩
          have HB5 := hid (HB4.out.trans (hb5.mono HB4.out.size)); clear hb5 HB4 hx4
          go_wp2_with fail
          go_roundw
          case rel => exact ⟨k + 1, by omega, by go_num, HB5.out⟩
          case measure => simp [intOf]; omega
      · have e : k = len := by omega
        subst e
        go_wp2_with fail
        go_ret
        exact ⟨rfl, hbr⟩


theorem words_zero (a : Option Addr) (cap : Nat) (w : World) : Calls Tryd.prog 3 #[.slice a 0 cap] w fun e w' => e = .returned (.bool true) ∧ Below w.heap.size w w' := by
  have HD := hid (fun w => decF_any 5243027 w (by decide) (by decide))
  rw [first_word] at HD
  have HP := hid (fun w => print_any ⟨22, 1, 0, 0, 5, 0, false, false⟩ w)
  rw [first_right, if_pos rfl, first_text] at HP
  have HB := hid (Below.refl w.heap.size w)
  dsimp only [Ins.v] at HD
  go_enter Tryd.func3, Tryd.ntmps3
  go_wp2_with fail
  refine (HD.out _).mono ?_
  rintro e w1 ⟨rfl, hb1⟩
  have HB1 := hid (HB.out.trans hb1); clear hb1 HB
  go_wp2_with fail
  refine (HP.out _).mono ?_
  rintro e w2 ⟨rfl, hb2⟩
  have HB2 := hid ((HB1.out.alloc HB1.out.size _).trans (hb2.mono (by have := HB1.out.size; simp; omega))); clear hb2 HB1
  go_wp2_with fail
  go_loopw [5] (fun i wr => i = .int .i64 0 ∧ Below w.heap.size w wr) (fun i _ => 0)
  case atStart => exact ⟨rfl, HB2.out⟩
  case round =>
    obtain ⟨rfl, hbr⟩ := hrel
    go_wp2_with fail
    go_ret
    exact ⟨rfl, hbr⟩

theorem words_walk (w : World) (a : Option Addr) (len cap : Nat) (z : List Int) (h : IsRow .u32 w a len cap z) :
    Calls Tryd.prog 3 #[.slice a len cap] w fun e w' => e = .returned (.bool true) ∧ Below w.heap.size w w' := by
  rcases row_open h with rfl | ⟨b, off, rfl, hb, h1, h2, h3, h4, h5⟩
  · exact words_zero a cap w
  · exact words_some b off len cap z w hb h1 h2 h3 h4 (fun n hn => wf_u32 (h5 n hn))

end Go.Proofs.YteidojpklpfdeaaDoor
