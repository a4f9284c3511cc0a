/- The walks of vireoref04: Reg, numbered, Takes, Name, Print: the page's text of an instruction. -/
import Derived.Test.YteidojpklpfdeaaDoorMF
import Derived.Test.YteidojpklpfdeaaDoorME
import Derived.Deep.QuietTactic
import Derived.BigQuiet
namespace Go.Proofs.YteidojpklpfdeaaDoor
open Go.RowKit
attribute [local go_sem] setCell_drewN alloc_drewN
set_option linter.unusedVariables false
set_option linter.unusedSimpArgs false

/-- What a right instruction bears. -/
theorem right_boundsK (x : Ins) (hr : right x = true) : (1 ≤ x.op ∧ x.op ≤ 98) ∧ (0 ≤ x.rd ∧ x.rd ≤ 31) ∧ (0 ≤ x.rs1 ∧ x.rs1 ≤ 31) ∧ (0 ≤ x.rs2 ∧ x.rs2 ≤ 31) ∧ (0 ≤ x.csr ∧ x.csr ≤ 4095) ∧ (-2147483648 ≤ x.imm ∧ x.imm ≤ 2147483647) := by
  have hk : known x.op = true := by simp [right] at hr; exact hr.1
  have hb : 1 ≤ x.op ∧ x.op ≤ 98 := by simpa [known] using hk
  have h := hr
  rw [right_eq] at h
  have him : -2147483648 ≤ x.imm ∧ x.imm ≤ 2147483647 := by
    have h' := h
    simp only [rright, rrightBy, partC, Bool.and_eq_true, decide_eq_true_eq] at h'
    obtain ⟨_, _, _, _, ⟨h1, h2⟩, _⟩ := h'
    have hi : -2147483648 ≤ (immR (rowAt x.op).form).a ∧ (immR (rowAt x.op).form).b ≤ 2147483647 := by
      rcases form_ok x.op hb.1 hb.2 with e | e | e | e | e | e | e | e | e | e | e | e | e | e | e | e <;> rw [e] <;> decide
    omega
  simp only [rright, rrightBy, inRange, Bool.and_eq_true, decide_eq_true_eq] at h
  exact ⟨hb, by omega, by omega, by omega, by omega, him⟩

theorem tdiv_bdK (a : Int) (h0 : -2147483648 ≤ a) (h1 : a ≤ 2147483647) : -524288 ≤ a.tdiv 4096 ∧ a.tdiv 4096 ≤ 524287 ∧ (a.tmod 4096 = 0 → a.tdiv 4096 * 4096 = a) := by
  have hm := Int.tmod_add_tdiv_mul a 4096
  rcases Int.le_total 0 a with h | h
  · rw [Int.tdiv_eq_ediv_of_nonneg h] at *
    exact ⟨by omega, by omega, fun hz => by omega⟩
  · obtain ⟨m, rfl⟩ : ∃ m, a = -m := ⟨-a, by omega⟩
    rw [Int.neg_tdiv, Int.tdiv_eq_ediv_of_nonneg (by omega)] at *
    exact ⟨by omega, by omega, fun hz => by omega⟩

set_option maxHeartbeats 1000000 in
theorem rreg_any (n : Int) (w : World) (h0 : -9223372036854775808 ≤ n) (h1 : n < 9223372036854775808) :
    Calls Tryd.prog 23 #[.int .i64 n] w fun e w' => e = .returned (.string ⟨(regS n).toArray⟩) ∧ ∃ k, w' = w.drewN k := by
  have hl : (decS n).length ≤ 21 := by
    unfold decS
    split
    · have := digs_len 10 20 (-n).toNat; simp; omega
    · have := digs_len 10 20 n.toNat; omega
  have HD := hid (fun w => rdec_any n w h0 h1)
  have HE := hid (show regS n = 120 :: decS n from rfl)
  generalize regS n = r at *
  generalize decS n = l at *
  go_enter Tryd.func23, Tryd.ntmps23
  go_wp2_with (go_at_call 59; refine (HD.out _).mono ?_; rintro e w' ⟨rfl, k, rfl⟩)
  go_ret
  refine ⟨ret_string ?_, k, rfl⟩
  rw [HE.out, show (⟨#[120]⟩ : ByteArray) = ⟨([120] : List UInt8).toArray⟩ from rfl, ByteArray.mk_append_mk]
  rfl

theorem run_rrow1' (a b c d e : Value) (w : World) : (Instr.field 99 (.agg #[a, b, c, d, e]) 1).run Tryd.prog w = .ok b w := by kernel_rfl
theorem run_rrow0' (a b c d e : Value) (w : World) : (Instr.field 99 (.agg #[a, b, c, d, e]) 0).run Tryd.prog w = .ok a w := by kernel_rfl

theorem klen (n : Int) : (decS n).length ≤ 21 := by
  unfold decS
  split
  · have := digs_len 10 20 (-n).toNat; simp; omega
  · have := digs_len 10 20 n.toNat; omega

set_option maxHeartbeats 1000000 in
theorem rnumbered_known (op : Int) (w : World) (h0 : 1 ≤ op) (h1 : op ≤ 98) :
    Calls Tryd.prog 97 #[.int .i64 op] w fun e w' => e = .returned (.bool ((rowAt op).form == 3 || ((rowAt op).form == 7 || ((rowAt op).form == 8 || (rowAt op).form == 10)))) ∧ ∃ o1 o2 o3, ((w.alloc o1).alloc o2).alloc o3 = w' := by
  have HO := hid (fun w => of_known op w h0 h1)
  have hrf := run_rrow1'
  generalize hz : ((rowAt op).form == 3 || ((rowAt op).form == 7 || ((rowAt op).form == 8 || (rowAt op).form == 10))) = z at *
  generalize rowAt op = r at *
  have HZ := hid hz; clear hz
  obtain ⟨nm, form, code, f3, f7⟩ := r
  dsimp only at *
  go_enter Tryd.func97, Tryd.ntmps97
  go_wp2_with (go_at_call 61; refine (HO.out _).mono ?_; rintro e w1 ⟨rfl, rfl⟩)
  all_goals
    go_ret
    exact ⟨ret_bool (by rw [← HZ.out]; simp [*, Bool.or_assoc]), _, _, _, rfl⟩

/-- Texts in a slice that was made by the call, or none. -/
def TextsNew (w w' : World) (v : Value) (ps : List (List UInt8)) : Prop :=
  (ps = [] ∧ v = .slice none 0 0) ∨ ∃ B, v = .slice (some ⟨B, 0, none⟩) ps.length ps.length ∧ w.heap.size ≤ B ∧ B < w'.heap.size ∧ ∀ (j : Nat) p, ps[j]? = some p → w'.cell? ⟨B, j, none⟩ = some (.string ⟨p.toArray⟩)
def TakesPost (w : World) (ps : List (List UInt8)) (e : Ending) (w' : World) : Prop := ∃ v, e = .returned v ∧ TextsNew w w' v ps ∧ Below w.heap.size w w'

theorem takes2 {w W : World} {a b : List UInt8} {sa sb : ByteArray} {t : TypeId} {ps : List (List UInt8)} {e : Ending} {B : Nat} (he : e = .returned (.slice (some ⟨B, 0, none⟩) 2 2)) (hB : B = W.heap.size) (hw : w.heap.size ≤ B) (hp : [a, b] = ps) (e1 : sa = ⟨a.toArray⟩) (e2 : sb = ⟨b.toArray⟩)
    (hb : Below w.heap.size w (W.alloc (.cells #[.string sa, .string sb] t))) : TakesPost w ps e (W.alloc (.cells #[.string sa, .string sb] t)) := by
  subst hB hp e1 e2
  refine ⟨_, he, .inr ⟨W.heap.size, rfl, hw, by simp, fun j p hj => ?_⟩, hb⟩
  rw [World.cell?_alloc_new]
  match j, hj with
  | 0, hj => simp at hj; subst hj; rfl
  | 1, hj => simp at hj; subst hj; rfl
  | j + 2, hj => simp at hj
theorem takes3 {w W : World} {a b c : List UInt8} {sa sb sc : ByteArray} {t : TypeId} {ps : List (List UInt8)} {e : Ending} {B : Nat} (he : e = .returned (.slice (some ⟨B, 0, none⟩) 3 3)) (hB : B = W.heap.size) (hw : w.heap.size ≤ B) (hp : [a, b, c] = ps) (e1 : sa = ⟨a.toArray⟩) (e2 : sb = ⟨b.toArray⟩) (e3 : sc = ⟨c.toArray⟩)
    (hb : Below w.heap.size w (W.alloc (.cells #[.string sa, .string sb, .string sc] t))) : TakesPost w ps e (W.alloc (.cells #[.string sa, .string sb, .string sc] t)) := by
  subst hB hp e1 e2 e3
  refine ⟨_, he, .inr ⟨W.heap.size, rfl, hw, by simp, fun j p hj => ?_⟩, hb⟩
  rw [World.cell?_alloc_new]
  match j, hj with
  | 0, hj => simp at hj; subst hj; rfl
  | 1, hj => simp at hj; subst hj; rfl
  | 2, hj => simp at hj; subst hj; rfl
  | j + 3, hj => simp at hj
theorem takes0 {w W : World} {ps : List (List UInt8)} {e : Ending} (he : e = .returned (.slice none 0 0)) (hp : [] = ps) (hb : Below w.heap.size w W) : TakesPost w ps e W :=
  ⟨_, he, .inl ⟨hp.symm, rfl⟩, hb⟩

theorem takes_drew {w W : World} {ps : List (List UInt8)} {e : Ending} {n : Nat} (h : TakesPost w ps e W) : TakesPost w ps e (W.drewN n) := by
  obtain ⟨v, he, ht, hb⟩ := h
  refine ⟨v, he, ?_, bel_drewN hb⟩
  rcases ht with ht | ⟨B, h1, h2, h3, h4⟩
  · exact .inl ht
  · exact .inr ⟨B, h1, h2, by simpa using h3, fun j p hj => by simpa [go_sem] using h4 j p hj⟩

set_option maxHeartbeats 8000000 in
set_option maxRecDepth 100000 in
theorem takes_any (x : Ins) (hr : right x = true) (w : World) :
    Calls Tryd.prog 58 #[.agg #[.int .i64 x.op, .int .i64 x.rd, .int .i64 x.rs1, .int .i64 x.rs2, .int .i64 x.imm, .int .i64 x.csr, .bool x.aq, .bool x.rl]] w (TakesPost w (partsS (rowAt x.op).form x)) := by
  obtain ⟨hb, hrd, hrs1, hrs2, hcsr, himm⟩ := right_boundsK x hr
  have hf := form_ok x.op hb.1 hb.2
  have HO := hid (fun w => of_known x.op w hb.1 hb.2)
  have HN := hid (fun w => rnumbered_known x.op w hb.1 hb.2)
  have htd := tdiv_bdK x.imm himm.1 himm.2
  have HD4 := hid (fun w => rdec_any (x.imm.tdiv 4096) w (by omega) (by omega))
  have HW4 := hid (show wrap64 (x.imm.tdiv 4096) = x.imm.tdiv 4096 by unfold wrap64; omega)
  have HH := hid (fun w => rhex_any x.csr.toNat w (by omega))
  rw [show ((x.csr.toNat : Nat) : Int) = x.csr by omega] at HH
  have HWC := hid (show IntKind.u64.wrap x.csr = x.csr by rw [IntKind.wrap_u64]; omega)
  have HR1 := hid (fun w => rreg_any x.rd w (by omega) (by omega))
  have HR2 := hid (fun w => rreg_any x.rs1 w (by omega) (by omega))
  have HR3 := hid (fun w => rreg_any x.rs2 w (by omega) (by omega))
  have HD := hid (fun w => rdec_any x.imm w (by omega) (by omega))
  generalize hps : partsS (rowAt x.op).form x = ps at *
  unfold partsS at hps
  generalize rowAt x.op = r at *
  obtain ⟨nm, form, code, f3, f7⟩ := r
  obtain ⟨op, rd, rs1, rs2, imm, csr, aq, rl⟩ := x
  dsimp only at *
  simp only [← beq_iff_eq (a := form)] at hps
  have HP := hid hps; clear hps
  have hrf := run_rrow1'
  have hf0 := hf; clear hr
  have HB0 := hid htd; clear htd hrd hrs1 hrs2 hcsr himm hb
  clear hf
  have HF0 := hid hf0; clear hf0
  have hl1 := klen imm
  have hl2 : (regS rs1).length ≤ 22 := by have := klen rs1; simp [regS]; omega
  have a1 : ¬ 9223372036854775807 < (decS imm).length + 1 := by omega
  have a2 : ¬ 9223372036854775807 < (decS imm).length + 1 + (regS rs1).length := by omega
  have a3 : ¬ 9223372036854775807 < (decS imm).length + 1 + (regS rs1).length + 1 := by omega
  have b1 : ¬ 9223372036854775807 < 1 + (regS rs1).length := by omega
  have b2 : ¬ 9223372036854775807 < 1 + (regS rs1).length + 1 := by omega
  clear hl1 hl2
  go_enter Tryd.func58, Tryd.ntmps58
  go_wp2_with fail
  go_quiet (first | (go_at_call 23; first | exact Calls.quiet_of (HR1.out _) | exact Calls.quiet_of (HR2.out _) | exact Calls.quiet_of (HR3.out _)) | (go_at_call 59; exact Calls.quiet_of (HD.out _)))
  go_wp2_with (first | (go_at_call 59; rw [HW4.out]; refine (HD4.out _).mono ?_; rintro e w' ⟨rfl, k, rfl⟩) | (go_at_call 96; rw [HWC.out]; refine (HH.out _).mono ?_; rintro e w' ⟨rfl, k, rfl⟩) | (go_at_call 61; refine (HO.out _).mono ?_; rintro e w' ⟨rfl, rfl⟩) | (go_at_call 97; refine (HN.out _).mono ?_; rintro e w' ⟨rfl, o1, o2, o3, rfl⟩))
  all_goals go_ret
  all_goals clear HO HN HD HD4 HH HR1 HR2 HR3 HW4 HWC HB0
  all_goals have hp := HP.out
  all_goals clear HP
  all_goals simp only [*, if_true, if_false, Bool.false_eq_true, reduceIte] at hp
  all_goals try (
    have h9 : (form == 9) = false := by
      have hff := HF0.out
      simp only [beq_iff_eq, beq_eq_false_iff_ne, ne_eq] at *
      omega
    rw [h9] at hp
    simp only [Bool.false_eq_true, reduceIte] at hp)
  all_goals try (
    have h9 : (form == 9) = true := by
      have hff := HF0.out
      simp only [beq_iff_eq, beq_eq_false_iff_ne, ne_eq] at *
      omega
    rw [h9] at hp
    simp only [reduceIte] at hp)
  all_goals try refine takes_drew ?_
  all_goals try (
    first
    | apply takes2 (hp := hp)
    | apply takes3 (hp := hp)
    | apply takes0 (hp := hp)
    case he => rfl
    all_goals first | rfl | omega | (simp; done) | (simp; omega) | (simp only [ByteArray.mk_append_mk]; rfl) | (simp [ByteArray.mk_append_mk, brS]; done) | ((repeat (first | exact Below.refl _ _ | apply bel_drewN | apply Below.drew | refine Below.alloc ?_ (by first | omega | (simp; done) | (simp; omega)) _)); done))

end Go.Proofs.YteidojpklpfdeaaDoor
