/- Plain: an instruction's text is short and of ASCII bytes alone. -/
import Derived.Test.YteidojpklpfdeaaDoorPrA
import Derived.Test.YteidojpklpfdeaaDoorMI
namespace Go.Proofs.YteidojpklpfdeaaDoor
open Go.RowKit
attribute [local go_sem] setCell_drewN alloc_drewN
set_option linter.unusedVariables false
set_option linter.unusedSimpArgs false

def Asc (l : List UInt8) : Prop := ∀ c ∈ l, c.toNat < 128
theorem asc_app {l m : List UInt8} (h : Asc l) (g : Asc m) : Asc (l ++ m) := fun c hc => (List.mem_append.1 hc).elim (h c) (g c)
theorem asc_cons {a : UInt8} {l : List UInt8} (h : a.toNat < 128) (g : Asc l) : Asc (a :: l) := fun c hc => (List.mem_cons.1 hc).elim (fun e => e ▸ h) (g c)
theorem digs_asc (b f n : Nat) (hb1 : 1 ≤ b) (hb : b ≤ 16) : Asc (digsF b f n) := fun c hc => by
  obtain ⟨k, hk, rfl⟩ := digs_mem b f n c hb1 hc
  exact (dch_solid k (by omega)).2.2.2
theorem dec_asc (n : Int) : Asc (decS n) := by
  unfold decS
  split
  · exact asc_cons (by decide) (digs_asc 10 20 _ (by omega) (by omega))
  · exact digs_asc 10 20 _ (by omega) (by omega)
theorem reg_asc (n : Int) : Asc (regS n) := asc_cons (by decide) (dec_asc n)
theorem hex_asc (n : Nat) : Asc (hexS n) := asc_cons (by decide) (asc_cons (by decide) (digs_asc 16 16 _ (by omega) (by omega)))
theorem br_asc {l : List UInt8} (h : Asc l) : Asc (brS l) := asc_cons (by decide) (asc_app h (by intro c hc; rw [List.mem_singleton.1 hc]; decide))
theorem suf_asc (aq rl : Bool) : Asc (sufS aq rl) := fun c hc => (suf_chars aq rl c hc).2.2

theorem all_ite2 {Q : List UInt8 → Prop} {c : Prop} [Decidable c] {a b : List (List UInt8)} (ha : ∀ p ∈ a, Q p) (hb : ∀ p ∈ b, Q p) : ∀ p ∈ (if c then a else b), Q p := by split <;> assumption
theorem parts_small (f : Int) (x : Ins) : ∀ p ∈ partsS f x, Asc p ∧ p.length ≤ 50 := by
  have h1 := reg_asc x.rd; have h2 := reg_asc x.rs1; have h3 := reg_asc x.rs2; have h4 := dec_asc x.imm; have h5 := dec_asc (x.imm.tdiv 4096); have h6 := hex_asc x.csr.toNat
  have h7 := br_asc h2
  have h8 := asc_app h4 h7
  have n1 := reg_len x.rd; have n2 := reg_len x.rs1; have n3 := reg_len x.rs2; have n4 := dec_len x.imm; have n5 := dec_len (x.imm.tdiv 4096); have n6 := hex_len x.csr.toNat
  have l1 : (brS (regS x.rs1)).length ≤ 24 := by simp [brS]; omega
  have l2 : (decS x.imm ++ brS (regS x.rs1)).length ≤ 50 := by rw [List.length_append]; omega
  have q1 : Asc (regS x.rd) ∧ (regS x.rd).length ≤ 50 := ⟨h1, by omega⟩
  have q2 : Asc (regS x.rs1) ∧ (regS x.rs1).length ≤ 50 := ⟨h2, by omega⟩
  have q3 : Asc (regS x.rs2) ∧ (regS x.rs2).length ≤ 50 := ⟨h3, by omega⟩
  have q4 : Asc (decS x.imm) ∧ (decS x.imm).length ≤ 50 := ⟨h4, by omega⟩
  have q5 : Asc (decS (x.imm.tdiv 4096)) ∧ (decS (x.imm.tdiv 4096)).length ≤ 50 := ⟨h5, by omega⟩
  have q6 : Asc (hexS x.csr.toNat) ∧ (hexS x.csr.toNat).length ≤ 50 := ⟨h6, by omega⟩
  have q7 : Asc (brS (regS x.rs1)) ∧ (brS (regS x.rs1)).length ≤ 50 := ⟨h7, by omega⟩
  have q8 : Asc (decS x.imm ++ brS (regS x.rs1)) ∧ (decS x.imm ++ brS (regS x.rs1)).length ≤ 50 := ⟨h8, by omega⟩
  have g3 : ∀ a b c : List UInt8, (Asc a ∧ a.length ≤ 50) → (Asc b ∧ b.length ≤ 50) → (Asc c ∧ c.length ≤ 50) → ∀ p ∈ [a, b, c], Asc p ∧ p.length ≤ 50 := fun a b c ha hb hc p h => by
    rcases List.mem_cons.1 h with rfl | h
    · exact ha
    · rcases List.mem_cons.1 h with rfl | h
      · exact hb
      · rw [List.mem_singleton.1 h]; exact hc
  have g2 : ∀ a b : List UInt8, (Asc a ∧ a.length ≤ 50) → (Asc b ∧ b.length ≤ 50) → ∀ p ∈ [a, b], Asc p ∧ p.length ≤ 50 := fun a b ha hb p h => by
    rcases List.mem_cons.1 h with rfl | h
    · exact ha
    · rw [List.mem_singleton.1 h]; exact hb
  have g0 : ∀ p ∈ ([] : List (List UInt8)), Asc p ∧ p.length ≤ 50 := fun p h => absurd h List.not_mem_nil
  unfold partsS
  repeat' apply all_ite2 (Q := fun p => Asc p ∧ p.length ≤ 50)
  all_goals first | exact g3 _ _ _ (by assumption) (by assumption) (by assumption) | exact g2 _ _ (by assumption) (by assumption) | exact g0

theorem partsS_len (f : Int) (x : Ins) : (partsS f x).length ≤ 3 := by
  have key : ∀ (c : Prop) [Decidable c] (a b : List (List UInt8)), a.length ≤ 3 → b.length ≤ 3 → (if c then a else b).length ≤ 3 := fun c _ a b ha hb => by split <;> assumption
  unfold partsS
  repeat' (refine key _ _ _ ?_ ?_)
  all_goals exact Nat.le_of_ble_eq_true rfl

theorem joinL_small : ∀ ps : List (List UInt8), (∀ p ∈ ps, Asc p ∧ p.length ≤ 50) → Asc (joinL ps) ∧ (joinL ps).length ≤ 51 * ps.length
  | [], _ => ⟨fun c hc => by simp [joinL] at hc, by simp [joinL]⟩
  | [a], h => ⟨(h a List.mem_cons_self).1, by have := (h a List.mem_cons_self).2; simp [joinL]; omega⟩
  | a :: b :: l, h => by
    have h1 := h a List.mem_cons_self
    have h2 := joinL_small (b :: l) fun p hp => h p (List.mem_cons_of_mem _ hp)
    rw [joinL]
    refine ⟨asc_app h1.1 (asc_cons (by decide) h2.1), ?_⟩
    have := h2.2
    simp at this ⊢
    omega

theorem text_small (x : Ins) (hr : right x = true) : Asc (textS x) ∧ (textS x).length ≤ 200 ∧ textS x ≠ [] := by
  obtain ⟨hb, _⟩ := right_bounds x hr
  obtain ⟨k, hk, _, _, hne, hch, hln⟩ := fin_op (P := fun k => nameL k ≠ [] ∧ ((nameL k).all fun c => c != 32 && c != 9 && c != 44 && decide (c.toNat < 128)) = true ∧ (nameL k).length ≤ 20) names_ok x.op hb.1 hb.2
  have hnm : (rowAt x.op).name.data.toList = nameL k := by unfold nameL; rw [hk]
  have hna : Asc (nameL k) := fun c hc => by
    have := List.all_eq_true.1 hch c hc
    simp only [Bool.and_eq_true, decide_eq_true_eq] at this
    exact this.2
  have hj := joinL_small (partsS (rowAt x.op).form x) (parts_small _ x)
  have hl := partsS_len (rowAt x.op).form x
  have hs := suf_len x.aq x.rl
  unfold textS
  rw [hnm]
  refine ⟨asc_app (asc_app hna (suf_asc _ _)) ?_, ?_, by simp [hne]⟩
  · split
    · intro c hc; cases hc
    · exact asc_cons (by decide) hj.1
  · rw [List.length_append, List.length_append]
    split
    · simp; omega
    · have := hj.2
      simp; omega

theorem ask_text (x : Ins) (hr : right x = true) : askOk (textS x) = true := by
  obtain ⟨h1, h2, _⟩ := text_small x hr
  unfold askOk
  simp only [Bool.and_eq_true, decide_eq_true_eq, Bool.or_eq_true, List.all_eq_true]
  exact ⟨by omega, .inr fun c hc => h1 c hc⟩

end Go.Proofs.YteidojpklpfdeaaDoor
