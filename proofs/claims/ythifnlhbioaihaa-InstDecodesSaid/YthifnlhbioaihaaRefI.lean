/- The walk of vireoref03.Decode. -/
import Derived.Test.YthifnlhbioaihaaRefE
import Derived.Test.YthifnlhbioaihaaRefG2
import Derived.Test.YthifnlhbioaihaaPureG
import Derived.Test.YthifnlhbioaihaaEqIns
import Derived.Test.YthifnlhbioaihaaLawEnc
namespace Go.Proofs.Ythifnlhbioaihaa
open Go.RowKit
set_option linter.unusedVariables false
set_option linter.unusedSimpArgs false

theorem guess_any (op x : Int) (w : World) (h0 : 0 ≤ x) (h1 : x < 4294967296) (ho0 : 1 ≤ op) (ho1 : op ≤ 98) :
    Calls Try.prog 42 #[.int .i64 op, .int .u64 x] w fun e w' => e = .returned (fieldsOf op (rowAt op).form x).v ∧ Below w.heap.size w w' := by
  have hf := form_ok op ho0 ho1
  have he : guessBy op (rowAt op).form x = fieldsOf op (rowAt op).form x := by
    obtain ⟨n, rfl⟩ := Int.eq_ofNat_of_zero_le h0
    exact guess_eq op _ n hf
  rw [← he]
  by_cases hh : (rowAt op).form = 14 ∨ (rowAt op).form = 15
  · exact guess_hi op x w h0 (by omega) ho0 ho1 hh
  · exact guess_lo op x w h0 (by omega) ho0 ho1 (by unfold IsForm at hf; omega)

/-- The document's test of an operation is the hit. -/
theorem hit_test (W : Nat) (hw : W < 4294967296) (k : Nat) (k1 : 1 ≤ k) (k2 : k ≤ 98) :
    hit W (rowAt k) = ((rowAt k).code == (W : Int) % 128 && (rright (fieldsOf k (rowAt k).form W) && rword (fieldsOf k (rowAt k).form W) == W)) := by
  rw [Bool.eq_iff_iff]
  simp only [Bool.and_eq_true, beq_iff_eq]
  have ho : (fieldsOf k (rowAt k).form W).op = k := rfl
  constructor
  · intro h
    have hp := (hit_iff k (by omega) (by omega) W hw).1 h
    obtain ⟨g1, g2⟩ := word_whose k (by omega) (by omega) W hw hp
    refine ⟨hp.1.symm, ?_, g2⟩
    rw [← right_eq]
    unfold right
    rw [ho, g1]
    simp [known]; omega
  · rintro ⟨_, h2, h3⟩
    rw [← right_eq] at h2
    have hrb : rightBy (partsOf (rowAt (fieldsOf k (rowAt k).form W).op).form) (fieldsOf k (rowAt k).form W) = true := by simp [right] at h2; exact h2.2
    obtain ⟨h4, _⟩ := word_reads _ (by rw [ho]; omega) (by rw [ho]; omega) hrb W h3
    rw [ho] at h4
    exact (hit_iff k (by omega) (by omega) W hw).2 h4

def RDecoded (x : Int) (a : Ins) (b : Bool) : Prop :=
  (∃ k : Nat, 1 ≤ k ∧ k ≤ 98 ∧ NoHit x k ∧ hit x (rowAt k) = true ∧ a = fieldsOf k (rowAt k).form x ∧ b = true) ∨ (NoHit x 99 ∧ a = zeroIns ∧ b = false)

def RDecPost (x : Int) (w : World) (e : Ending) (w' : World) : Prop :=
  ∃ a b, RDecoded x a b ∧ e = .returned (.tuple #[a.v, .bool b]) ∧ Below w.heap.size w w'

set_option maxHeartbeats 4000000 in
set_option maxRecDepth 100000 in
theorem rdecode_any (x : Int) (w : World) (h0 : 0 ≤ x) (h1 : x < 4294967296) :
    Calls Try.prog 15 #[.int .u32 x] w (RDecPost x w) := by
  go_enter Try.func15, Try.ntmps15
  go_wp2_with fail
  refine (rows_any _).mono ?_
  rintro e w' ⟨rfl, rfl⟩
  generalize hrc : rowsCells = rc at *
  have HRC := hid hrc; clear hrc
  go_wp2_with fail
  go_loopw [5] (fun i wr => ∃ k : Nat, 1 ≤ k ∧ k ≤ 99 ∧ i = .int .i64 k ∧ NoHit x k ∧ Below (w.heap.size + 2) ((w.alloc (.cells #[.int .i64 0, .int .i64 0, .int .i64 0, .int .i64 0, .int .i64 0, .int .i64 0, .bool false, .bool false] 23)).alloc (.cells rc 39)) wr)
    (fun i _ => 99 - (intOf i).toNat)
  case atStart => exact ⟨1, by omega, by omega, rfl, fun j h1 h2 => by omega, Below.refl _ _⟩
  case round =>
    obtain ⟨k, hk0, hk, rfl, hno, hnx⟩ := hrel
    have hz : w.heap.size + 2 ≤ wr.heap.size := by have := hnx.size; simp at this; omega
    have HNO := hid hno; clear hno
    have HNX := hid hnx; clear hnx
    by_cases hlt : k ≤ 98
    · have hcell : wr.cell? ⟨w.heap.size + 1, (k - 1) * 5 + 2, none⟩ = some (.int .i64 (rowAt k).code) := by
        rw [HNX.out.cell (by simp)]
        have h9 := rrow_cell (w.alloc (.cells #[.int .i64 0, .int .i64 0, .int .i64 0, .int .i64 0, .int .i64 0, .int .i64 0, .bool false, .bool false] 23)) k hk0 hlt 2 (by omega) 39
        rw [HRC.out] at h9
        simpa [Row.rv] using h9
      have e0 : ((k : Int) - 1).toNat = k - 1 := by omega
      have HIT := hid (show hit x (rowAt k) = ((rowAt k).code == x % 128 && (rright (fieldsOf k (rowAt k).form x) && rword (fieldsOf k (rowAt k).form x) == x)) from (by obtain ⟨n, rfl⟩ := Int.eq_ofNat_of_zero_le h0; exact hit_test n (by omega) k hk0 hlt))
      have HGU := hid (fun w => guess_any k x w h0 h1 (by omega) (by omega))
      generalize hrow : rowAt (k : Int) = r at *
      have HROW := hid hrow; clear hrow
      obtain ⟨nm, form, code, f3, f7⟩ := r
      dsimp only at hcell HIT HGU
      have HOP := hid (show (fieldsOf k form x).op = k from rfl)
      generalize hy : fieldsOf (k : Int) form x = y at *
      have HYY := hid hy; clear hy
      have HB0 := hid (show Below w.heap.size w wr from (((Below.refl _ _).alloc (Nat.le_refl _) _).alloc (by simp) _).trans (HNX.out.mono (by omega)))
      cases hq : (code != x % 128) with
      | true =>
        go_wp2_with fail
        have hq2 : (code == x % 128) = false := by simpa using hq
        refine ⟨⟨k + 1, by omega, by omega, by go_num, ?_, ?_⟩, by simp [intOf] <;> omega⟩
        · intro j g1 g2
          by_cases e : j = k
          · rw [e, HROW.out, HIT.out]; rw [hq2, Bool.false_and]
          · exact HNO.out j g1 (by omega)
        · exact HNX.out
      | false =>
        have hq2 : (code == x % 128) = true := by simpa using hq
        have HQ2 := hid hq2; clear hq2
        have HR := hid (fun w => rright_any y w)
        have HW := hid (fun (h : inRange y = true) w => rword_any y w (by rw [HOP.out]; omega) (by rw [HOP.out]; omega) h)
        have HIN := hid (fun h : rright y = true => show inRange y = true from (by simp only [rright, rrightBy, Bool.and_eq_true] at h; exact h.2.1))
        generalize hrw : rword y = v at *
        have HRW := hid hrw; clear hrw
        cases hr : rright y with
        | false =>
          rw [hr] at HR
          have HR2 := hid hr; clear hr
          obtain ⟨a0, a1, a2, a3, a4, a5, a6, a7⟩ := y
          dsimp only [Ins.v] at HGU HR
          go_wp2_with (first | (go_at_call 42; refine (HGU.out _).mono ?_; rintro e w1 ⟨rfl, hb1⟩; have hz1 := hb1.size) | (go_at_call 11; refine (HR.out _).mono ?_; rintro e w2 ⟨rfl, hb2⟩))
          refine ⟨⟨k + 1, by omega, by omega, by go_num, ?_, ?_⟩, by simp [intOf] <;> omega⟩
          · intro j g1 g2
            by_cases e : j = k
            · rw [e, HROW.out, HIT.out]; rw [HR2.out, Bool.false_and, Bool.and_false]
            · exact HNO.out j g1 (by omega)
          · exact (HNX.out.trans (hb1.mono hz)).trans ((((Below.refl _ _).alloc (by omega) _)).trans (hb2.mono (by simp; omega)))
        | true =>
          have hwd := HW.out (HIN.out hr)
          have HWD := hid hwd; clear hwd HW HIN
          rw [hr] at HR
          have HR2 := hid hr; clear hr
          cases hv : (v == x) with
          | false =>
            obtain ⟨a0, a1, a2, a3, a4, a5, a6, a7⟩ := y
            dsimp only [Ins.v] at HGU HR HWD
            go_wp2_with (first | (go_at_call 42; refine (HGU.out _).mono ?_; rintro e w1 ⟨rfl, hb1⟩; have hz1 := hb1.size) | (go_at_call 11; refine (HR.out _).mono ?_; rintro e w2 ⟨rfl, hb2⟩; have hcc := bcell hb2; have hz2 : w1.heap.size < w2.heap.size := (by have := hb2.size; simp at this; omega)) | (go_at_call 13; refine (HWD.out _).mono ?_; rintro e w3 ⟨rfl, hb3⟩))
            refine ⟨⟨k + 1, by omega, by omega, by go_num, ?_, ?_⟩, by simp [intOf] <;> omega⟩
            · intro j g1 g2
              by_cases e : j = k
              · rw [e, HROW.out, HIT.out]; rw [hv, Bool.and_false, Bool.and_false]
              · exact HNO.out j g1 (by omega)
            · exact ((HNX.out.trans (hb1.mono hz)).trans ((((Below.refl _ _).alloc (by omega) _)).trans (hb2.mono (by simp; omega)))).trans (hb3.mono (by omega))
          | true =>
            have HV := hid hv
            have hi23 : (Try.prog.info? 23).map (·.size) = some 8 := by kernel_rfl
            have HI23 := hid hi23; clear hi23
            obtain ⟨a0, a1, a2, a3, a4, a5, a6, a7⟩ := y
            dsimp only [Ins.v] at HGU HR HWD
            go_wp2_with (first | (refine wpList_store_row rfl 23 (.tmp 2) (.tmp 37) rfl w.heap.size rfl _ #[.int .i64 0, .int .i64 0, .int .i64 0, .int .i64 0, .int .i64 0, .int .i64 0, .bool false, .bool false] 23 rfl ?hg HI23.out rfl rfl ?_) | (go_at_call 42; refine (HGU.out _).mono ?_; rintro e w1 ⟨rfl, hb1⟩; have hz1 := hb1.size) | (go_at_call 11; refine (HR.out _).mono ?_; rintro e w2 ⟨rfl, hb2⟩; have hcc := bcell hb2; have hz2 : w1.heap.size < w2.heap.size := (by have := hb2.size; simp at this; omega)) | (go_at_call 13; refine (HWD.out _).mono ?_; rintro e w3 ⟨rfl, hb3⟩; have hcd := bcell hb3; have hz3 := hb3.size; have HRZ := hid (show w3.heap[w.heap.size]? = some (.cells #[.int .i64 0, .int .i64 0, .int .i64 0, .int .i64 0, .int .i64 0, .int .i64 0, .bool false, .bool false] 23 (0, 0)) from (hb3.block w.heap.size (by omega)).trans ((hb2.block w.heap.size (by simp; omega)).trans ((Below.heap_alloc _ _ _ (by omega)).trans ((hb1.block w.heap.size (by omega)).trans ((HNX.out.block w.heap.size (by omega)).trans ((Below.heap_alloc _ _ _ (by simp)).trans (heap_alloc_new w _)))))))))
            case hg => exact HRZ.out
            refine bodyPost_ret (v := .tuple #[.agg #[.int .i64 a0, .int .i64 a1, .int .i64 a2, .int .i64 a3, .int .i64 a4, .int .i64 a5, .bool a6, .bool a7], .bool true]) ?_ rfl ?_
            · rw [results_cell_tmp (p := 2) (u := 3) (ty := 23) rfl]
              have hl := run_loadVar_row (P := Try.prog) (w3.setRow w.heap.size #[.int .i64 a0, .int .i64 a1, .int .i64 a2, .int .i64 a3, .int .i64 a4, .int .i64 a5, .bool a6, .bool a7]) w.heap.size 23 23 _ (0, 0) _ (setRow_heap _ _ _ _ _ _ HRZ.out) Try.underlying23 rfl HI23.out
              simp [asAddr, hl]
            · exact ⟨⟨a0, a1, a2, a3, a4, a5, a6, a7⟩, true, .inl ⟨k, hk0, hlt, HNO.out, by rw [HROW.out, HIT.out, HQ2.out, HR2.out, HV.out]; rfl, by rw [HROW.out]; exact HYY.out.symm, rfl⟩, rfl, bel_setRow (((HB0.out.trans (hb1.mono (by omega))).trans (((Below.refl _ _).alloc (by omega) _).trans (hb2.mono (by simp; omega)))).trans (hb3.mono (by omega))) (Nat.le_refl _)⟩
    · have e : k = 99 := by omega
      subst e
      have HB := hid (show wr.heap[w.heap.size]? = some (.cells #[.int .i64 0, .int .i64 0, .int .i64 0, .int .i64 0, .int .i64 0, .int .i64 0, .bool false, .bool false] 23 (0, 0)) from (HNX.out.block w.heap.size (by omega)).trans ((Below.heap_alloc _ _ _ (by simp)).trans (heap_alloc_new w _)))
      have hi23 : (Try.prog.info? 23).map (·.size) = some 8 := by kernel_rfl
      go_wp2_with (first | (refine wpList_store_row rfl 23 (.tmp 2) (.tmp 38) rfl w.heap.size rfl #[.int .i64 0, .int .i64 0, .int .i64 0, .int .i64 0, .int .i64 0, .int .i64 0, .bool false, .bool false] _ _ rfl HB.out hi23 rfl rfl ?_))
      refine bodyPost_ret (v := .tuple #[.agg #[.int .i64 0, .int .i64 0, .int .i64 0, .int .i64 0, .int .i64 0, .int .i64 0, .bool false, .bool false], .bool false]) ?_ rfl ?_
      · rw [results_cell_tmp (p := 2) (u := 3) (ty := 23) rfl]
        have hl := run_loadVar_row (P := Try.prog) (wr.setRow w.heap.size #[.int .i64 0, .int .i64 0, .int .i64 0, .int .i64 0, .int .i64 0, .int .i64 0, .bool false, .bool false]) w.heap.size 23 23 _ (0, 0) _ (setRow_heap _ _ _ _ _ _ HB.out) Try.underlying23 rfl hi23
        simp [asAddr, hl]
      · exact ⟨zeroIns, false, .inr ⟨HNO.out, rfl, rfl⟩, rfl, bel_setRow ((((Below.refl _ _).alloc (Nat.le_refl _) _).alloc (by simp) _).trans (HNX.out.mono (by omega))) (Nat.le_refl _)⟩

end Go.Proofs.Ythifnlhbioaihaa
