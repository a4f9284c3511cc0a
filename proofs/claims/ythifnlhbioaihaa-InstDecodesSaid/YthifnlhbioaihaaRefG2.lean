/- The walk of vireoref03.Guess, of the forms 14 and 15. -/
import Derived.Test.YthifnlhbioaihaaRefE0
import Derived.Deep.DeepCutAuto
import Derived.Deep.CutBlock
namespace Go.Proofs.Ythifnlhbioaihaa
open Go.RowKit
set_option linter.unusedVariables false
set_option linter.unusedSimpArgs false

theorem cell_via {B : Nat} {a b : World} {p : Addr} {v : Option Value} (hb : Below B a b) (hp : p.block < B) (h : a.cell? p = v) : b.cell? p = v := (hb.cell hp).trans h

set_option maxHeartbeats 40000000 in
set_option maxRecDepth 100000 in
theorem guess_hi (op x : Int) (w : World) (h0 : 0 ≤ x) (h1 : x < 18446744073709551616) (ho0 : 1 ≤ op) (ho1 : op ≤ 98) (hff : (rowAt op).form = 14 ∨ (rowAt op).form = 15) :
    Calls Try.prog 42 #[.int .i64 op, .int .u64 x] w fun e w' => e = .returned (guessBy op (rowAt op).form x).v ∧ Below w.heap.size w w' := by
  have HG := hid (fun a n w => rget_any x a n w h0 h1)
  have HU := hid (fun w => usual_any x w h0 h1)
  have hfo := form_ok op ho0 ho1
  have HB := hid (fun w => back_any (rowAt op).form x w h0 h1 hfo); clear h1
  have HOF := hid (fun w => of_known op w ho0 ho1)
  have b5 := get_b x 7 5 32 (by decide)
  have b11 := get_b x 20 12 4096 (by decide)
  have b13 := get_b x 20 5 32 (by decide)
  have b14 := get_b x 15 5 32 (by decide)
  have hrf := run_rrow1
  generalize rowAt op = r at *
  obtain ⟨nm, form, code, f3, f7⟩ := r
  dsimp only at *
  clear hfo
  rcases hff with rfl | rfl
  · go_enter Try.func42, Try.ntmps42
    go_wp2_with fail
    refine (HOF.out _).mono ?_
    rintro e w' ⟨rfl, rfl⟩
    go_wp2_with fail
    refine (HU.out _).mono ?_
    rintro e w' ⟨w1, hb1, rfl, rfl⟩
    go_wp2_with fail
    refine (HB.out _).mono ?_
    rintro e w2 ⟨rfl, hb2⟩
    have hz0 : w.heap.size + 3 ≤ w1.heap.size := by have := hb1.size; simp at this; omega
    have hz1 : w1.heap.size + 1 ≤ w2.heap.size := by have := hb2.size; simp at this; omega
    have hu : ∀ j : Nat, w2.cell? ⟨w1.heap.size, j, none⟩ = #[Value.int .u64 (get x 15 5), .int .u64 (get x 20 5), .int .u64 (get x 20 12), .int .u64 (get x 12 20)][j]? := fun j => by
      rw [hb2.cell (by simp)]; exact World.cell?_alloc_new _ _ _ _
    have hres : w2.heap[w.heap.size]? = some (.cells #[.int .i64 0, .int .i64 0, .int .i64 0, .int .i64 0, .int .i64 0, .int .i64 0, .bool false, .bool false] 23 (0, 0)) := by
      rw [hb2.block _ (by simp; omega), Below.heap_alloc _ _ _ (by omega), hb1.block _ (by simp; omega), Below.heap_alloc _ _ _ (by simp; omega), Below.heap_alloc _ _ _ (by simp)]
      exact heap_alloc_new _ _
    have hacc : Below w.heap.size w w2 := by
      refine Below.trans ?_ (hb2.mono (by simp; omega))
      refine Below.alloc ?_ (by omega) _
      refine Below.trans ?_ (hb1.mono (by simp; omega))
      exact (((Below.refl _ _).alloc (Nat.le_refl _) _).alloc (by simp) _).alloc (by simp; omega) _
    have hu0 := hu 0; have hu1 := hu 1; have hu2 := hu 2
    simp only [List.getElem?_toArray, List.getElem?_cons_zero, List.getElem?_cons_succ] at hu0 hu1 hu2
    have HRES := hid hres; have HACC := hid hacc
    clear hres hacc hu hb1 hb2
    have hl8 : w1.heap.size < w2.heap.size := by omega
    have hl9 : w1.heap.size < w2.heap.size + 1 := by omega
    have hl10 : w1.heap.size < w2.heap.size + 1 + 1 := by omega
    go_upto_region 12 with (first | (go_at_call 30; refine (rd_any _ _).mono ?_; simp only [rd_, List.any_cons, List.any_nil, Int.reduceBEq, Bool.or_self, Bool.or_false, Bool.or_true, Bool.true_or, Bool.false_or, Bool.not_true, Bool.not_false]; rintro e w' ⟨rfl, rfl⟩) | (go_at_call 31; refine (rs1_any _ _).mono ?_; simp only [rs1_, List.any_cons, List.any_nil, Int.reduceBEq, Bool.or_self, Bool.or_false, Bool.or_true, Bool.true_or, Bool.false_or, Bool.not_true, Bool.not_false]; rintro e w' ⟨rfl, rfl⟩) | (go_at_call 32; refine (rs2_any _ _).mono ?_; simp only [rs2_, List.any_cons, List.any_nil, Int.reduceBEq, Bool.or_self, Bool.or_false, Bool.or_true, Bool.true_or, Bool.false_or]; rintro e w' ⟨rfl, rfl⟩) | (go_at_call 33; first | (refine (in12 _ _ _ ?_ ?_).mono ?_; (focus (simp [go_sem]; done)); (focus (simp [go_sem]; done)); rintro e w' ⟨rfl, rfl⟩) | (refine (in14 _ _ _ ?_ ?_).mono ?_; (focus (simp [go_sem]; done)); (focus (simp [go_sem]; done)); rintro e w' ⟨rfl, rfl⟩)) | (go_at_call 50; refine (HG.out _ _ _).mono ?_; rintro e w3 ⟨rfl, hb⟩; have hcc := bcell hb; have hff := bfroz hb; have hzz := hb.size; (try simp at hzz); have hl0 : w2.heap.size < w3.heap.size := (by omega); have hl1 : w2.heap.size < w3.heap.size + 1 := (by omega); have hl2 : w2.heap.size < w3.heap.size + 1 + 1 := (by omega); have hl3 : w2.heap.size < w3.heap.size + 1 + 1 + 1 := (by omega); have hl4 : w1.heap.size < w3.heap.size := (by omega); have HA3 := hid hb; have hs1 : (w3.cell? ⟨w2.heap.size, 1, none⟩).isSome = true := (by rw [hb.cell (by first | omega | (simp; done) | (simp; omega))]; first | assumption | simp [go_sem, *]); have hs2 : (w3.cell? ⟨w2.heap.size, 2, none⟩).isSome = true := (by rw [hb.cell (by first | omega | (simp; done) | (simp; omega))]; first | assumption | simp [go_sem, *]); have hs3 : (w3.cell? ⟨w2.heap.size, 3, none⟩).isSome = true := (by rw [hb.cell (by first | omega | (simp; done) | (simp; omega))]; first | assumption | simp [go_sem, *])))
    go_cut [0, 48] (fun _ s48 wx => s48 = .bool true ∧ wx.heap[w.heap.size]? = some (.cells #[.int .i64 0, .int .i64 0, .int .i64 0, .int .i64 0, .int .i64 0, .int .i64 0, .bool false, .bool false] 23 (0, 0)) ∧ Below w.heap.size w wx ∧ w2.heap.size < wx.heap.size ∧ wx.cell? ⟨w2.heap.size, 0, none⟩ = some (.int .i64 op) ∧ wx.cell? ⟨w2.heap.size, 1, none⟩ = some (.int .i64 (get x 7 5)) ∧ wx.cell? ⟨w2.heap.size, 2, none⟩ = some (.int .i64 (get x 15 5)) ∧ wx.cell? ⟨w2.heap.size, 3, none⟩ = some (.int .i64 0) ∧ wx.cell? ⟨w2.heap.size, 4, none⟩ = some (.int .i64 (rback 14 x)) ∧ wx.cell? ⟨w2.heap.size, 5, none⟩ = some (.int .i64 0) ∧ wx.cell? ⟨w2.heap.size, 6, none⟩ = some (.bool false) ∧ wx.cell? ⟨w2.heap.size, 7, none⟩ = some (.bool false) ∧ wx.frozen? ⟨w2.heap.size, 6, none⟩ = false ∧ wx.frozen? ⟨w2.heap.size, 7, none⟩ = false)
    case first =>
      go_wp2_with (first | (go_at_call 33; first | (refine (in12 _ _ _ ?_ ?_).mono ?_; (focus (simp [go_sem]; done)); (focus (simp [go_sem]; done)); rintro e w' ⟨rfl, rfl⟩) | (refine (in14 _ _ _ ?_ ?_).mono ?_; (focus (simp [go_sem]; done)); (focus (simp [go_sem]; done)); rintro e w' ⟨rfl, rfl⟩)))
      go_meet
      have hz3 : w2.heap.size + 1 ≤ w3.heap.size := by have := HA3.out.size; simp at this; omega
      have hb3 := HA3.out
      clear HA3
      refine ⟨by simp [ordF], ?_, ?_, by simp; omega, ?_, ?_, ?_, ?_, ?_, ?_, ?_, ?_, ?_, ?_⟩
      · refine Eq.trans (Below.block (B := w.heap.size + 1) (w := w2) ?_ w.heap.size (by omega)) HRES.out
        repeat (first | exact Below.refl _ _ | (refine Below.trans ?_ (hb3.mono (by first | omega | (simp; omega)))) | (refine Below.alloc ?_ (by first | omega | (simp; omega)) _) | (refine Below.setCell ?_ (by first | omega | (simp; omega)) _))
      · repeat (first | exact HACC.out | (refine Below.trans ?_ (hb3.mono (by first | omega | (simp; omega)))) | (refine Below.alloc ?_ (by first | omega | (simp; omega)) _) | (refine Below.setCell ?_ (by first | omega | (simp; omega)) _))
      all_goals clear hrf HG HU HB HOF
      all_goals first | (simp [go_sem, *]; done) | trace_state
    case rest =>
      obtain ⟨rfl, hrow, hbw, hzw, c0, c1, c2, c3, c4, c5, c6, c7, f6, f7⟩ := hcut
      have hi23 : (Try.prog.info? 23).map (·.size) = some 8 := by kernel_rfl
      have HI24 := hid hi23; clear hi23
      clear hu0 hu1 hu2 HRES HACC hrf HU HB HOF
      have hww : w.heap.size < w2.heap.size := by omega
      clear hz0 hz1 hl8 hl9 hl10
      go_wp2_with (first | (refine wpList_store_row rfl 23 (.tmp 4) (.tmp 57) rfl w.heap.size rfl _ #[.int .i64 0, .int .i64 0, .int .i64 0, .int .i64 0, .int .i64 0, .int .i64 0, .bool false, .bool false] 23 rfl ?hg HI24.out rfl rfl ?_) | (go_at_call 50; refine (HG.out _ _ _).mono ?_; rintro e w4 ⟨rfl, hb⟩; replace c0 := (hb.cell (p := ⟨w2.heap.size, 0, none⟩) hzw).trans c0; replace c1 := (hb.cell (p := ⟨w2.heap.size, 1, none⟩) hzw).trans c1; replace c2 := (hb.cell (p := ⟨w2.heap.size, 2, none⟩) hzw).trans c2; replace c3 := (hb.cell (p := ⟨w2.heap.size, 3, none⟩) hzw).trans c3; replace c4 := (hb.cell (p := ⟨w2.heap.size, 4, none⟩) hzw).trans c4; replace c5 := (hb.cell (p := ⟨w2.heap.size, 5, none⟩) hzw).trans c5; replace c6 := (hb.cell (p := ⟨w2.heap.size, 6, none⟩) hzw).trans c6; replace c7 := (hb.cell (p := ⟨w2.heap.size, 7, none⟩) hzw).trans c7; replace f6 := (hb.frozen (p := ⟨w2.heap.size, 6, none⟩) hzw).trans f6; replace f7 := (hb.frozen (p := ⟨w2.heap.size, 7, none⟩) hzw).trans f7; replace hrow := (hb.block w.heap.size (Nat.lt_trans hww hzw)).trans hrow; replace hbw := hbw.trans (hb.mono hbw.size); replace hzw := Nat.lt_of_lt_of_le hzw hb.size; clear hb))
      case hg => refine Eq.trans (Below.block (B := w.heap.size + 1) ?_ w.heap.size (by omega)) hrow; repeat (first | exact Below.refl _ _ | (refine Below.setCell ?_ (by first | omega | (simp; omega)) _))
      refine bodyPost_ret (v := .agg _) (results_cell_row rfl _ _ w.heap.size 23 _ (0, 0) _ rfl (setRow_heap _ _ #[.int .i64 0, .int .i64 0, .int .i64 0, .int .i64 0, .int .i64 0, .int .i64 0, .bool false, .bool false] _ 23 _ ?hg2) Try.underlying23 rfl HI24.out) rfl ⟨?eq, bel_setRow ?_ (Nat.le_refl _)⟩
      case hg2 => refine Eq.trans (Below.block (B := w.heap.size + 1) ?_ w.heap.size (by omega)) hrow; repeat (first | exact Below.refl _ _ | (refine Below.setCell ?_ (by first | omega | (simp; omega)) _))
      case eq => simp [guessBy, Ins.v, rd_, rs1_, rs2_, sysF, ordF]
      repeat (first | exact hbw | (refine Below.setCell ?_ (by first | omega | (simp; omega)) _))
  · go_enter Try.func42, Try.ntmps42
    go_wp2_with fail
    refine (HOF.out _).mono ?_
    rintro e w' ⟨rfl, rfl⟩
    go_wp2_with fail
    refine (HU.out _).mono ?_
    rintro e w' ⟨w1, hb1, rfl, rfl⟩
    go_wp2_with fail
    refine (HB.out _).mono ?_
    rintro e w2 ⟨rfl, hb2⟩
    have hz0 : w.heap.size + 3 ≤ w1.heap.size := by have := hb1.size; simp at this; omega
    have hz1 : w1.heap.size + 1 ≤ w2.heap.size := by have := hb2.size; simp at this; omega
    have hu : ∀ j : Nat, w2.cell? ⟨w1.heap.size, j, none⟩ = #[Value.int .u64 (get x 15 5), .int .u64 (get x 20 5), .int .u64 (get x 20 12), .int .u64 (get x 12 20)][j]? := fun j => by
      rw [hb2.cell (by simp)]; exact World.cell?_alloc_new _ _ _ _
    have hres : w2.heap[w.heap.size]? = some (.cells #[.int .i64 0, .int .i64 0, .int .i64 0, .int .i64 0, .int .i64 0, .int .i64 0, .bool false, .bool false] 23 (0, 0)) := by
      rw [hb2.block _ (by simp; omega), Below.heap_alloc _ _ _ (by omega), hb1.block _ (by simp; omega), Below.heap_alloc _ _ _ (by simp; omega), Below.heap_alloc _ _ _ (by simp)]
      exact heap_alloc_new _ _
    have hacc : Below w.heap.size w w2 := by
      refine Below.trans ?_ (hb2.mono (by simp; omega))
      refine Below.alloc ?_ (by omega) _
      refine Below.trans ?_ (hb1.mono (by simp; omega))
      exact (((Below.refl _ _).alloc (Nat.le_refl _) _).alloc (by simp) _).alloc (by simp; omega) _
    have hu0 := hu 0; have hu1 := hu 1; have hu2 := hu 2
    simp only [List.getElem?_toArray, List.getElem?_cons_zero, List.getElem?_cons_succ] at hu0 hu1 hu2
    have HRES := hid hres; have HACC := hid hacc
    clear hres hacc hu hb1 hb2
    have hl8 : w1.heap.size < w2.heap.size := by omega
    have hl9 : w1.heap.size < w2.heap.size + 1 := by omega
    have hl10 : w1.heap.size < w2.heap.size + 1 + 1 := by omega
    go_upto_region 12 with (first | (go_at_call 30; refine (rd_any _ _).mono ?_; simp only [rd_, List.any_cons, List.any_nil, Int.reduceBEq, Bool.or_self, Bool.or_false, Bool.or_true, Bool.true_or, Bool.false_or, Bool.not_true, Bool.not_false]; rintro e w' ⟨rfl, rfl⟩) | (go_at_call 31; refine (rs1_any _ _).mono ?_; simp only [rs1_, List.any_cons, List.any_nil, Int.reduceBEq, Bool.or_self, Bool.or_false, Bool.or_true, Bool.true_or, Bool.false_or, Bool.not_true, Bool.not_false]; rintro e w' ⟨rfl, rfl⟩) | (go_at_call 32; refine (rs2_any _ _).mono ?_; simp only [rs2_, List.any_cons, List.any_nil, Int.reduceBEq, Bool.or_self, Bool.or_false, Bool.or_true, Bool.true_or, Bool.false_or]; rintro e w' ⟨rfl, rfl⟩) | (go_at_call 33; first | (refine (in12 _ _ _ ?_ ?_).mono ?_; (focus (simp [go_sem]; done)); (focus (simp [go_sem]; done)); rintro e w' ⟨rfl, rfl⟩) | (refine (in14 _ _ _ ?_ ?_).mono ?_; (focus (simp [go_sem]; done)); (focus (simp [go_sem]; done)); rintro e w' ⟨rfl, rfl⟩)) | (go_at_call 50; refine (HG.out _ _ _).mono ?_; rintro e w3 ⟨rfl, hb⟩; have hcc := bcell hb; have hff := bfroz hb; have hzz := hb.size; (try simp at hzz); have hl0 : w2.heap.size < w3.heap.size := (by omega); have hl1 : w2.heap.size < w3.heap.size + 1 := (by omega); have hl2 : w2.heap.size < w3.heap.size + 1 + 1 := (by omega); have hl3 : w2.heap.size < w3.heap.size + 1 + 1 + 1 := (by omega); have hl4 : w1.heap.size < w3.heap.size := (by omega); have HA3 := hid hb; have hs1 : (w3.cell? ⟨w2.heap.size, 1, none⟩).isSome = true := (by rw [hb.cell (by first | omega | (simp; done) | (simp; omega))]; first | assumption | simp [go_sem, *]); have hs2 : (w3.cell? ⟨w2.heap.size, 2, none⟩).isSome = true := (by rw [hb.cell (by first | omega | (simp; done) | (simp; omega))]; first | assumption | simp [go_sem, *]); have hs3 : (w3.cell? ⟨w2.heap.size, 3, none⟩).isSome = true := (by rw [hb.cell (by first | omega | (simp; done) | (simp; omega))]; first | assumption | simp [go_sem, *])))
    go_cut [0, 48] (fun _ s48 wx => s48 = .bool true ∧ wx.heap[w.heap.size]? = some (.cells #[.int .i64 0, .int .i64 0, .int .i64 0, .int .i64 0, .int .i64 0, .int .i64 0, .bool false, .bool false] 23 (0, 0)) ∧ Below w.heap.size w wx ∧ w2.heap.size < wx.heap.size ∧ wx.cell? ⟨w2.heap.size, 0, none⟩ = some (.int .i64 op) ∧ wx.cell? ⟨w2.heap.size, 1, none⟩ = some (.int .i64 (get x 7 5)) ∧ wx.cell? ⟨w2.heap.size, 2, none⟩ = some (.int .i64 (get x 15 5)) ∧ wx.cell? ⟨w2.heap.size, 3, none⟩ = some (.int .i64 (get x 20 5)) ∧ wx.cell? ⟨w2.heap.size, 4, none⟩ = some (.int .i64 (rback 15 x)) ∧ wx.cell? ⟨w2.heap.size, 5, none⟩ = some (.int .i64 0) ∧ wx.cell? ⟨w2.heap.size, 6, none⟩ = some (.bool false) ∧ wx.cell? ⟨w2.heap.size, 7, none⟩ = some (.bool false) ∧ wx.frozen? ⟨w2.heap.size, 6, none⟩ = false ∧ wx.frozen? ⟨w2.heap.size, 7, none⟩ = false)
    case first =>
      go_wp2_with (first | (go_at_call 33; first | (refine (in12 _ _ _ ?_ ?_).mono ?_; (focus (simp [go_sem]; done)); (focus (simp [go_sem]; done)); rintro e w' ⟨rfl, rfl⟩) | (refine (in14 _ _ _ ?_ ?_).mono ?_; (focus (simp [go_sem]; done)); (focus (simp [go_sem]; done)); rintro e w' ⟨rfl, rfl⟩)))
      go_meet
      have hz3 : w2.heap.size + 1 ≤ w3.heap.size := by have := HA3.out.size; simp at this; omega
      have hb3 := HA3.out
      clear HA3
      refine ⟨by simp [ordF], ?_, ?_, by simp; omega, ?_, ?_, ?_, ?_, ?_, ?_, ?_, ?_, ?_, ?_⟩
      · refine Eq.trans (Below.block (B := w.heap.size + 1) (w := w2) ?_ w.heap.size (by omega)) HRES.out
        repeat (first | exact Below.refl _ _ | (refine Below.trans ?_ (hb3.mono (by first | omega | (simp; omega)))) | (refine Below.alloc ?_ (by first | omega | (simp; omega)) _) | (refine Below.setCell ?_ (by first | omega | (simp; omega)) _))
      · repeat (first | exact HACC.out | (refine Below.trans ?_ (hb3.mono (by first | omega | (simp; omega)))) | (refine Below.alloc ?_ (by first | omega | (simp; omega)) _) | (refine Below.setCell ?_ (by first | omega | (simp; omega)) _))
      all_goals clear hrf HG HU HB HOF
      all_goals first | (simp [go_sem, *]; done) | trace_state
    case rest =>
      obtain ⟨rfl, hrow, hbw, hzw, c0, c1, c2, c3, c4, c5, c6, c7, f6, f7⟩ := hcut
      have hi23 : (Try.prog.info? 23).map (·.size) = some 8 := by kernel_rfl
      have HI24 := hid hi23; clear hi23
      clear hu0 hu1 hu2 HRES HACC hrf HU HB HOF
      have hww : w.heap.size < w2.heap.size := by omega
      clear hz0 hz1 hl8 hl9 hl10
      go_wp2_with (first | (refine wpList_store_row rfl 23 (.tmp 4) (.tmp 57) rfl w.heap.size rfl _ #[.int .i64 0, .int .i64 0, .int .i64 0, .int .i64 0, .int .i64 0, .int .i64 0, .bool false, .bool false] 23 rfl ?hg HI24.out rfl rfl ?_) | (go_at_call 50; refine (HG.out _ _ _).mono ?_; rintro e w4 ⟨rfl, hb⟩; replace c0 := (hb.cell (p := ⟨w2.heap.size, 0, none⟩) hzw).trans c0; replace c1 := (hb.cell (p := ⟨w2.heap.size, 1, none⟩) hzw).trans c1; replace c2 := (hb.cell (p := ⟨w2.heap.size, 2, none⟩) hzw).trans c2; replace c3 := (hb.cell (p := ⟨w2.heap.size, 3, none⟩) hzw).trans c3; replace c4 := (hb.cell (p := ⟨w2.heap.size, 4, none⟩) hzw).trans c4; replace c5 := (hb.cell (p := ⟨w2.heap.size, 5, none⟩) hzw).trans c5; replace c6 := (hb.cell (p := ⟨w2.heap.size, 6, none⟩) hzw).trans c6; replace c7 := (hb.cell (p := ⟨w2.heap.size, 7, none⟩) hzw).trans c7; replace f6 := (hb.frozen (p := ⟨w2.heap.size, 6, none⟩) hzw).trans f6; replace f7 := (hb.frozen (p := ⟨w2.heap.size, 7, none⟩) hzw).trans f7; replace hrow := (hb.block w.heap.size (Nat.lt_trans hww hzw)).trans hrow; replace hbw := hbw.trans (hb.mono hbw.size); replace hzw := Nat.lt_of_lt_of_le hzw hb.size; clear hb))
      case hg => refine Eq.trans (Below.block (B := w.heap.size + 1) ?_ w.heap.size (by omega)) hrow; repeat (first | exact Below.refl _ _ | (refine Below.setCell ?_ (by first | omega | (simp; omega)) _))
      refine bodyPost_ret (v := .agg _) (results_cell_row rfl _ _ w.heap.size 23 _ (0, 0) _ rfl (setRow_heap _ _ #[.int .i64 0, .int .i64 0, .int .i64 0, .int .i64 0, .int .i64 0, .int .i64 0, .bool false, .bool false] _ 23 _ ?hg2) Try.underlying23 rfl HI24.out) rfl ⟨?eq, bel_setRow ?_ (Nat.le_refl _)⟩
      case hg2 => refine Eq.trans (Below.block (B := w.heap.size + 1) ?_ w.heap.size (by omega)) hrow; repeat (first | exact Below.refl _ _ | (refine Below.setCell ?_ (by first | omega | (simp; omega)) _))
      case eq => simp [guessBy, Ins.v, rd_, rs1_, rs2_, sysF, ordF]
      repeat (first | exact hbw | (refine Below.setCell ?_ (by first | omega | (simp; omega)) _))

end Go.Proofs.Ythifnlhbioaihaa
