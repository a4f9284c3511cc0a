/- Plain: numbers as digits, and back. No program in it. Plain: an instruction's text. No program in it. The walks of word.Dec, word.Hex, word.value. The walks of word.value, word.Parse, word.ParseInt. The walks of asm.Reg, asm.suffix, asm.numbered. The walks of vireoref01: text, Hex, Dec: a number's digits. -/
import Derived.Test.YteidojpklpfdeaaDoorMA
import Derived.Laws.Concat
import Derived.Laws.DeepStrings4
import Derived.Laws.Strings2
/- Plain: numbers as digits, and back. No program in it. -/
namespace Go.Proofs.YteidojpklpfdeaaDoor
open Go.RowKit
attribute [local go_sem] setCell_drewN alloc_drewN
set_option linter.unusedVariables false
set_option linter.unusedSimpArgs false

/-- A digit. -/
def dch (k : Nat) : UInt8 := if k < 10 then UInt8.ofNat (48 + k) else UInt8.ofNat (87 + k)

/-- A number's digits, the highest first, at most f of them. -/
def digsF (b : Nat) : Nat → Nat → List UInt8
  | 0, _ => []
  | f + 1, n => if n < b then [dch n] else digsF b f (n / b) ++ [dch (n % b)]

/-- What a digit is worth; 99: it is none. -/
def pval (c : UInt8) : Nat := if 48 ≤ c.toNat ∧ c.toNat ≤ 57 then c.toNat - 48 else if 97 ≤ c.toNat ∧ c.toNat ≤ 102 then c.toNat - 87 else 99

/-- The number that digits write, behind one that stands already. -/
def pfold (b : Nat) : List UInt8 → Nat → Option Nat
  | [], n => some n
  | c :: r, n => if b ≤ pval c ∨ (18446744073709551615 - pval c) / b < n then none else pfold b r (n * b + pval c)

theorem pfold_app (b : Nat) (l m : List UInt8) : ∀ n, pfold b (l ++ m) n = (pfold b l n).bind (pfold b m) := by
  induction l with
  | nil => intro n; rfl
  | cons c l ih =>
    intro n
    simp only [List.cons_append, pfold]
    split
    · rfl
    · exact ih _

theorem pval_dch : ∀ k : Nat, k < 16 → pval (dch k) = k := by decide

theorem pfold_digs (b : Nat) (hb2 : 2 ≤ b) (hb : b ≤ 16) : ∀ (f n : Nat), n < b ^ f → 1 ≤ f → n < 18446744073709551616 → pfold b (digsF b f n) 0 = some n := by
  intro f
  induction f with
  | zero => intro n _ h; omega
  | succ f ih =>
    intro n h1 _ h3
    unfold digsF
    split
    · next h =>
      simp only [pfold, pval_dch n (by omega)]
      rw [if_neg (by rintro (h5 | h5); omega; exact Nat.not_lt_zero _ h5)]
      simp
    · next h =>
      have hf : 1 ≤ f := by
        rcases Nat.eq_zero_or_pos f with rfl | h4
        · simp at h1; omega
        · exact h4
      have hq : n / b < b ^ f := by
        rw [Nat.div_lt_iff_lt_mul (by omega)]
        rwa [Nat.pow_succ] at h1
      have hle : n / b ≤ n := Nat.div_le_self n b
      have hm : n % b < b := Nat.mod_lt n (by omega)
      have hd := Nat.div_add_mod n b
      rw [pfold_app, ih (n / b) hq hf (by omega)]
      simp only [Option.bind_some, pfold, pval_dch (n % b) (by omega)]
      have hk : ¬ (b ≤ n % b ∨ (18446744073709551615 - n % b) / b < n / b) := by
        rintro (h5 | h5)
        · omega
        · rw [Nat.div_lt_iff_lt_mul (by omega)] at h5
          rw [Nat.mul_comm] at hd
          omega
      rw [if_neg hk, Nat.mul_comm, hd]

theorem digs_mem (b : Nat) : ∀ (f n : Nat) (c : UInt8), 1 ≤ b → c ∈ digsF b f n → ∃ k, k < b ∧ c = dch k := by
  intro f
  induction f with
  | zero => intro n c _ h; simp [digsF] at h
  | succ f ih =>
    intro n c hb h
    unfold digsF at h
    split at h
    · next hn => exact ⟨n, hn, by simpa using h⟩
    · rcases List.mem_append.1 h with h | h
      · exact ih _ c hb h
      · exact ⟨n % b, Nat.mod_lt n hb, by simpa using h⟩

theorem digs_ne (b f n : Nat) (h : 1 ≤ f) : digsF b f n ≠ [] := by
  obtain ⟨f, rfl⟩ : ∃ g, f = g + 1 := ⟨f - 1, by omega⟩
  unfold digsF
  split <;> simp

/-- A number, decimal. -/
def decS (n : Int) : List UInt8 := if n < 0 then 45 :: digsF 10 20 (-n).toNat else digsF 10 20 n.toNat
/-- A number in the base of 16. -/
def hexS (n : Nat) : List UInt8 := 48 :: 120 :: digsF 16 16 n

/-- The word that a text writes. -/
def parseW (l : List UInt8) : Option Nat :=
  if 2 < l.length ∧ l[0]? = some 48 ∧ l[1]? = some 120 then pfold 16 (l.drop 2) 0 else if l = [] then none else pfold 10 l 0

/-- The number that a text writes. -/
def parseI (l : List UInt8) : Option Int :=
  if l[0]? = some 45 then (parseW l.tail).bind fun n => if 9223372036854775808 < n then none else some (-(n : Int))
  else (parseW l).bind fun n => if 9223372036854775808 ≤ n then none else some (n : Int)

theorem dch_ne : ∀ k : Nat, k < 10 → dch k ≠ 45 ∧ dch k ≠ 120 := by decide

theorem parseW_digs (n : Nat) (h : n < 18446744073709551616) : parseW (digsF 10 20 n) = some n := by
  have h1 : ∀ c ∈ digsF 10 20 n, c ≠ 45 ∧ c ≠ 120 := by
    intro c hc
    obtain ⟨k, hk, rfl⟩ := digs_mem 10 20 n c (by omega) hc
    exact dch_ne k hk
  unfold parseW
  rw [if_neg, if_neg (digs_ne 10 20 n (by omega)), pfold_digs 10 (by omega) (by omega) 20 n (by omega) (by omega) h]
  rintro ⟨_, _, h2⟩
  exact (h1 120 (List.mem_of_getElem? h2)).2 rfl

theorem parseI_dec (n : Int) (h0 : -9223372036854775808 ≤ n) (h1 : n < 9223372036854775808) : parseI (decS n) = some n := by
  unfold decS
  split
  · unfold parseI
    rw [if_pos (by simp), List.tail_cons, parseW_digs _ (by omega)]
    simp only [Option.bind_some]
    rw [if_neg (by omega)]
    congr 1; omega
  · have h2 : (digsF 10 20 n.toNat)[0]? ≠ some 45 := by
      intro h
      obtain ⟨k, hk, e⟩ := digs_mem 10 20 n.toNat 45 (by omega) (List.mem_of_getElem? h)
      exact (dch_ne k hk).1 e.symm
    unfold parseI
    rw [if_neg h2, parseW_digs _ (by omega)]
    simp only [Option.bind_some]
    rw [if_neg (by omega)]
    congr 1; omega

theorem parseI_hex (n : Nat) (h : n < 9223372036854775808) : parseI (hexS n) = some (n : Int) := by
  have hd : parseW (hexS n) = some n := by
    have hne := digs_ne 16 16 n (by omega)
    have hl : 0 < (digsF 16 16 n).length := List.length_pos_iff.2 hne
    unfold parseW hexS
    rw [if_pos (by simp; omega)]
    simp only [List.drop_succ_cons, List.drop_zero]
    exact pfold_digs 16 (by omega) (by omega) 16 n (by omega) (by omega) (by omega)
  unfold parseI
  rw [if_neg (by simp [hexS]), hd]
  simp only [Option.bind_some]
  rw [if_neg (by omega)]

end Go.Proofs.YteidojpklpfdeaaDoor

/- Plain: an instruction's text. No program in it. -/
namespace Go.Proofs.YteidojpklpfdeaaDoor
open Go.RowKit
attribute [local go_sem] setCell_drewN alloc_drewN
set_option linter.unusedVariables false
set_option linter.unusedSimpArgs false

def regS (n : Int) : List UInt8 := 120 :: decS n
def sufS (aq rl : Bool) : List UInt8 := if aq && rl then [46, 97, 113, 114, 108] else if aq then [46, 97, 113] else if rl then [46, 114, 108] else []
def brS (l : List UInt8) : List UInt8 := 40 :: (l ++ [41])

/-- What an instruction of a form takes. -/
def partsS (f : Int) (x : Ins) : List (List UInt8) :=
  if f = 1 then [regS x.rd, decS (x.imm.tdiv 4096)]
  else if f = 2 then [regS x.rd, decS x.imm]
  else if f = 5 then [regS x.rd, decS x.imm ++ brS (regS x.rs1)]
  else if f = 6 then [regS x.rs2, decS x.imm ++ brS (regS x.rs1)]
  else if f = 4 then [regS x.rs1, regS x.rs2, decS x.imm]
  else if f = 12 then [regS x.rd, hexS x.csr.toNat, regS x.rs1]
  else if f = 13 then [regS x.rd, hexS x.csr.toNat, decS x.imm]
  else if f = 14 then [regS x.rd, brS (regS x.rs1)]
  else if f = 15 then [regS x.rd, regS x.rs2, brS (regS x.rs1)]
  else if f = 16 then [regS x.rs1, regS x.rs2]
  else if f = 11 then []
  else if f = 9 then [regS x.rd, regS x.rs1, regS x.rs2]
  else [regS x.rd, regS x.rs1, decS x.imm]

/-- Texts with commas between them. -/
def joinL : List (List UInt8) → List UInt8
  | [] => []
  | [a] => a
  | a :: b :: l => a ++ 44 :: joinL (b :: l)

/-- An instruction's text. -/
def textS (x : Ins) : List UInt8 :=
  (rowAt x.op).name.data.toList ++ sufS x.aq x.rl ++ (if partsS (rowAt x.op).form x = [] then [] else 32 :: joinL (partsS (rowAt x.op).form x))

/-- No blank, no comma. -/
def Solid (l : List UInt8) : Prop := l ≠ [] ∧ ∀ c ∈ l, c ≠ 32 ∧ c ≠ 9 ∧ c ≠ 44

theorem dch_solid : ∀ k : Nat, k < 16 → dch k ≠ 32 ∧ dch k ≠ 9 ∧ dch k ≠ 44 ∧ (dch k).toNat < 128 := by decide

theorem digs_solid (b f n : Nat) (hb1 : 1 ≤ b) (hb : b ≤ 16) (h : 1 ≤ f) : Solid (digsF b f n) :=
  ⟨digs_ne b f n h, fun c hc => by
    obtain ⟨k, hk, rfl⟩ := digs_mem b f n c hb1 hc
    have := dch_solid k (by omega)
    exact ⟨this.1, this.2.1, this.2.2.1⟩⟩

theorem solid_cons (c : UInt8) (l : List UInt8) (h : c ≠ 32 ∧ c ≠ 9 ∧ c ≠ 44) (hl : ∀ d ∈ l, d ≠ 32 ∧ d ≠ 9 ∧ d ≠ 44) : Solid (c :: l) :=
  ⟨by simp, fun d hd => by
    rcases List.mem_cons.1 hd with rfl | hd
    · exact h
    · exact hl d hd⟩

theorem dec_solid (n : Int) : Solid (decS n) := by
  unfold decS
  split
  · exact solid_cons _ _ (by decide) (digs_solid 10 20 _ (by omega) (by omega) (by omega)).2
  · exact digs_solid 10 20 _ (by omega) (by omega) (by omega)
theorem reg_solid (n : Int) : Solid (regS n) := solid_cons _ _ (by decide) (dec_solid n).2
theorem hex_solid (n : Nat) : Solid (hexS n) := by
  refine solid_cons _ _ (by decide) fun d hd => ?_
  rcases List.mem_cons.1 hd with rfl | hd
  · decide
  · exact (digs_solid 16 16 n (by omega) (by omega) (by omega)).2 d hd
theorem br_solid (l : List UInt8) (h : Solid l) : Solid (brS l) := by
  refine solid_cons _ _ (by decide) fun d hd => ?_
  rcases List.mem_append.1 hd with hd | hd
  · exact h.2 d hd
  · rw [List.mem_singleton.1 hd]; decide
theorem app_solid (l m : List UInt8) (h : Solid l) (g : Solid m) : Solid (l ++ m) :=
  ⟨by simp [h.1], fun d hd => by
    rcases List.mem_append.1 hd with hd | hd
    · exact h.2 d hd
    · exact g.2 d hd⟩

theorem all_ite {c : Prop} [Decidable c] {a b : List (List UInt8)} (ha : ∀ p ∈ a, Solid p) (hb : ∀ p ∈ b, Solid p) : ∀ p ∈ (if c then a else b), Solid p := by split <;> assumption

theorem parts_solid (f : Int) (x : Ins) : ∀ p ∈ partsS f x, Solid p := by
  have h1 := reg_solid x.rd
  have h2 := reg_solid x.rs1
  have h3 := reg_solid x.rs2
  have h4 := dec_solid x.imm
  have h5 := dec_solid (x.imm.tdiv 4096)
  have h6 := hex_solid x.csr.toNat
  have h7 := br_solid _ h2
  have h8 := app_solid _ _ h4 h7
  have g3 : ∀ a b c : List UInt8, Solid a → Solid b → Solid c → ∀ p ∈ [a, b, c], Solid p := fun a b c ha hb hc p h => by
    rcases List.mem_cons.1 h with rfl | h
    · exact ha
    · rcases List.mem_cons.1 h with rfl | h
      · exact hb
      · rw [List.mem_singleton.1 h]; exact hc
  have g2 : ∀ a b : List UInt8, Solid a → Solid b → ∀ p ∈ [a, b], Solid p := fun a b ha hb p h => by
    rcases List.mem_cons.1 h with rfl | h
    · exact ha
    · rw [List.mem_singleton.1 h]; exact hb
  have g0 : ∀ p ∈ ([] : List (List UInt8)), Solid p := fun p h => absurd h List.not_mem_nil
  unfold partsS
  repeat' apply all_ite
  all_goals first | exact g3 _ _ _ (by assumption) (by assumption) (by assumption) | exact g2 _ _ (by assumption) (by assumption) | exact g0

end Go.Proofs.YteidojpklpfdeaaDoor

/- The walks of word.Dec, word.Hex, word.value. -/
namespace Go.Proofs.YteidojpklpfdeaaDoor
open Go.RowKit
attribute [local go_sem] setCell_drewN alloc_drewN
set_option linter.unusedVariables false
set_option linter.unusedSimpArgs false

theorem ret_string {a b : ByteArray} (h : a = b) : Ending.returned (.string a) = .returned (.string b) := by rw [h]

/-- A digit's text, out of the row of digits. -/
theorem slice_digit (k : Nat) (hk : k < 16) (w : World) :
    (Instr.slice 9 (.string ⟨#[48, 49, 50, 51, 52, 53, 54, 55, 56, 57, 97, 98, 99, 100, 101, 102]⟩) (some (.int .u64 k)) (some (.int .u64 ((k : Int) + 1))) none).run Tryd.prog w = .ok (.string ⟨#[dch k]⟩) w := by
  rw [run_slice_string_if _ _ _ _ _ _ _ Tryd.underlying9, if_pos (by constructor; omega; show (k : Int) + 1 ≤ 16; omega), if_pos (by omega)]
  have key : ∀ k : Fin 16, (⟨#[48, 49, 50, 51, 52, 53, 54, 55, 56, 57, 97, 98, 99, 100, 101, 102]⟩ : ByteArray).extract k.val (k.val + 1) = ⟨#[dch k.val]⟩ := by decide +kernel
  have h := key ⟨k, hk⟩
  have e : ((k : Int) + 1).toNat = k + 1 := by omega
  rw [e, Int.toNat_natCast, h]

theorem add_lists (x y : List UInt8) (t : TypeId) (w : World) (h : x.length + y.length ≤ 9223372036854775807) :
    (binOp .add t (.string ⟨x.toArray⟩) (.string ⟨y.toArray⟩)).run Tryd.prog w = .ok (.string ⟨(x ++ y).toArray⟩) w := by
  rw [binOp_string_add, run_string_add_if, if_neg (by simp [ByteArray.size]; omega), ByteArray.mk_append_mk]

set_option maxHeartbeats 1000000 in
theorem hex_any (n : Nat) (w : World) (h1 : n < 18446744073709551616) :
    Calls Tryd.prog 34 #[.int .u64 n] w fun e w' => e = .returned (.string ⟨(hexS n).toArray⟩) ∧ w = w' := by
  go_enter Tryd.func34, Tryd.ntmps34
  go_wp2
  go_loopw [0, 3] (fun v t wr => ∃ (f k : Nat) (l : List UInt8), k < 16 ^ f ∧ 1 ≤ f ∧ l.length + f ≤ 16 ∧ v = .int .u64 k ∧ t = .string ⟨l.toArray⟩ ∧ digsF 16 16 n = digsF 16 f k ++ l ∧ k < 18446744073709551616 ∧ w = wr)
    (fun v _ _ => (intOf v).toNat)
  case atStart => exact ⟨16, n, [], by omega, by omega, by simp, rfl, rfl, by simp, by omega, by simp⟩
  case round =>
    obtain ⟨f, k, l, hk, hf, hl, rfl, rfl, he, hk2, rfl⟩ := hrel
    have HE := hid he; clear he
    obtain ⟨f, rfl⟩ : ∃ g, f = g + 1 := ⟨f - 1, by omega⟩
    have HDIG := hid (show digsF 16 (f + 1) k = if k < 16 then [dch k] else digsF 16 f (k / 16) ++ [dch (k % 16)] from rfl)
    obtain ⟨d, hd0⟩ : ∃ d, d = k % 16 := ⟨_, rfl⟩
    obtain ⟨q, hq0⟩ : ∃ q, q = k / 16 := ⟨_, rfl⟩
    rw [← hd0, ← hq0] at HDIG
    have hm : bits .and .u64 (k : Int) 15 = (d : Int) := by
      have h := u64_and_nat k 15 hk2 (by omega)
      rw [Nat.and_two_pow_sub_one_eq_mod k 4] at h
      exact h.trans (by rw [hd0])
    have hdv : (k : Int) / 16 = (q : Int) := by omega
    have hd10 : d < 16 := by omega
    have hkq : k = 16 * q + d := by omega
    have HKQ := hid hkq
    clear hd0 hq0 hkq
    have hsl := fun w => slice_digit d (by omega) w
    have hwr : IntKind.u64.wrap ((d : Int) + 1) = (d : Int) + 1 := by rw [IntKind.wrap_u64]; omega
    by_cases hlt : q = 0
    · subst hlt
      go_wp2
      go_ret
      have hk0 : k = d := by have := HKQ.out; omega
      have hs : (⟨#[48, 120]⟩ : ByteArray) ++ (⟨#[dch d]⟩ ++ ⟨l.toArray⟩) = ⟨([48, 120] ++ ([dch d] ++ l)).toArray⟩ := by
        rw [show (⟨#[dch d]⟩ : ByteArray) = ⟨[dch d].toArray⟩ from rfl, show (⟨#[48, 120]⟩ : ByteArray) = ⟨([48, 120] : List UInt8).toArray⟩ from rfl, ByteArray.mk_append_mk, ByteArray.mk_append_mk]
      refine ⟨ret_string ?_, rfl⟩
      rw [hs]
      congr 2
      have he := HE.out
      rw [HDIG.out, if_pos (by omega), hk0] at he
      unfold hexS
      rw [he]; rfl
    · have hzb : ((q : Int) == 0) = false := by simp; omega
      go_wp2
      have hp : 16 ^ (f + 1) = 16 ^ f * 16 := Nat.pow_succ 16 f
      have hk0 := HKQ.out
      have hf1 : 1 ≤ f := by
        rcases Nat.eq_zero_or_pos f with rfl | h
        · simp at hk; omega
        · exact h
      refine ⟨⟨f, q, dch d :: l, by omega, hf1, by simp; omega, rfl, ?_, ?_, by omega, by simp⟩, by simp [intOf]; omega⟩
      · rw [show (⟨#[dch d]⟩ : ByteArray) = ⟨[dch d].toArray⟩ from rfl, ByteArray.mk_append_mk]; rfl
      · rw [HE.out, HDIG.out, if_neg (by omega)]; simp

set_option maxHeartbeats 1000000 in
theorem dec_any (n : Int) (w : World) (h0 : -9223372036854775808 ≤ n) (h1 : n < 9223372036854775808) :
    Calls Tryd.prog 33 #[.int .i64 n] w fun e w' => e = .returned (.string ⟨(decS n).toArray⟩) ∧ w = w' := by
  by_cases hn : n < 0
  · have hd : decide (n < 0) = true := by simpa using hn
    go_enter Tryd.func33, Tryd.ntmps33
    go_wp2
    go_loopw [3, 5] (fun v t wr => ∃ (f k : Nat) (l : List UInt8), k < 10 ^ f ∧ 1 ≤ f ∧ l.length + f ≤ 20 ∧ v = .int .u64 k ∧ t = .string ⟨l.toArray⟩ ∧ digsF 10 20 (-n).toNat = digsF 10 f k ++ l ∧ k < 18446744073709551616 ∧ w = wr)
      (fun v _ _ => (intOf v).toNat)
    case atStart => exact ⟨20, (-n).toNat, [], by omega, by omega, by simp, by congr 1; rw [IntKind.wrap_u64, IntKind.wrap_u64]; omega, rfl, by simp, by omega, by simp⟩
    case round =>
      obtain ⟨f, k, l, hk, hf, hl, rfl, rfl, he, hk2, rfl⟩ := hrel
      have HE := hid he; clear he
      obtain ⟨f, rfl⟩ : ∃ g, f = g + 1 := ⟨f - 1, by omega⟩
      have HDIG := hid (show digsF 10 (f + 1) k = if k < 10 then [dch k] else digsF 10 f (k / 10) ++ [dch (k % 10)] from rfl)
      obtain ⟨d, hd0⟩ : ∃ d, d = k % 10 := ⟨_, rfl⟩
      obtain ⟨q, hq0⟩ : ∃ q, q = k / 10 := ⟨_, rfl⟩
      rw [← hd0, ← hq0] at HDIG
      have hm : (k : Int) % 10 = (d : Int) := by omega
      have hdv : (k : Int) / 10 = (q : Int) := by omega
      have hd10 : d < 10 := by omega
      have hkq : k = 10 * q + d := by omega
      have HKQ := hid hkq
      clear hd0 hq0 hkq
      have hsl := fun w => slice_digit d (by omega) w
      have hadd := fun w => add_lists [dch d] l 9 w (by simp; omega)
      have hwr : IntKind.u64.wrap ((d : Int) + 1) = (d : Int) + 1 := by rw [IntKind.wrap_u64]; omega
      by_cases hlt : q = 0
      · subst hlt
        have hfin := fun w => add_lists [45] (dch d :: l) 9 w (by simp; omega)
        go_wp2
        go_ret
        have hk0 : k = d := by have := HKQ.out; omega
        have hs : (⟨#[45]⟩ : ByteArray) ++ (⟨#[dch d]⟩ ++ ⟨l.toArray⟩) = ⟨([45] ++ ([dch d] ++ l)).toArray⟩ := by
          rw [show (⟨#[dch d]⟩ : ByteArray) = ⟨[dch d].toArray⟩ from rfl, show (⟨#[45]⟩ : ByteArray) = ⟨([45] : List UInt8).toArray⟩ from rfl, ByteArray.mk_append_mk, ByteArray.mk_append_mk]
        refine ⟨ret_string ?_, rfl⟩
        rw [hs]
        congr 2
        have he := HE.out
        rw [HDIG.out, if_pos (by omega), hk0] at he
        unfold decS
        rw [if_pos hn, he]; rfl
      · have hzb : ((q : Int) == 0) = false := by simp; omega
        go_wp2
        have hp : 10 ^ (f + 1) = 10 ^ f * 10 := Nat.pow_succ 10 f
        have hk0 := HKQ.out
        have hf1 : 1 ≤ f := by
          rcases Nat.eq_zero_or_pos f with rfl | h
          · simp at hk; omega
          · exact h
        refine ⟨⟨f, q, dch d :: l, by omega, hf1, by simp; omega, rfl, ?_, ?_, by omega, by simp⟩, by simp [intOf]; omega⟩
        · rw [show (⟨#[dch d]⟩ : ByteArray) = ⟨[dch d].toArray⟩ from rfl, ByteArray.mk_append_mk]; rfl
        · rw [HE.out, HDIG.out, if_neg (by omega)]; simp
  · have hd : decide (n < 0) = false := by simpa using hn
    go_enter Tryd.func33, Tryd.ntmps33
    go_wp2
    go_loopw [3, 5] (fun v t wr => ∃ (f k : Nat) (l : List UInt8), k < 10 ^ f ∧ 1 ≤ f ∧ l.length + f ≤ 20 ∧ v = .int .u64 k ∧ t = .string ⟨l.toArray⟩ ∧ digsF 10 20 n.toNat = digsF 10 f k ++ l ∧ k < 18446744073709551616 ∧ w = wr)
      (fun v _ _ => (intOf v).toNat)
    case atStart => exact ⟨20, n.toNat, [], by omega, by omega, by simp, by congr 1; omega, rfl, by simp, by omega, by simp⟩
    case round =>
      obtain ⟨f, k, l, hk, hf, hl, rfl, rfl, he, hk2, rfl⟩ := hrel
      have HE := hid he; clear he
      obtain ⟨f, rfl⟩ : ∃ g, f = g + 1 := ⟨f - 1, by omega⟩
      have HDIG := hid (show digsF 10 (f + 1) k = if k < 10 then [dch k] else digsF 10 f (k / 10) ++ [dch (k % 10)] from rfl)
      obtain ⟨d, hd0⟩ : ∃ d, d = k % 10 := ⟨_, rfl⟩
      obtain ⟨q, hq0⟩ : ∃ q, q = k / 10 := ⟨_, rfl⟩
      rw [← hd0, ← hq0] at HDIG
      have hm : (k : Int) % 10 = (d : Int) := by omega
      have hdv : (k : Int) / 10 = (q : Int) := by omega
      have hd10 : d < 10 := by omega
      have hkq : k = 10 * q + d := by omega
      have HKQ := hid hkq
      clear hd0 hq0 hkq
      have hsl := fun w => slice_digit d (by omega) w
      have hadd := fun w => add_lists [dch d] l 9 w (by simp; omega)
      have hwr : IntKind.u64.wrap ((d : Int) + 1) = (d : Int) + 1 := by rw [IntKind.wrap_u64]; omega
      by_cases hlt : q = 0
      · subst hlt
        have hfin := fun w => add_lists [] (dch d :: l) 9 w (by simp; omega)
        go_wp2
        go_ret
        have hk0 : k = d := by have := HKQ.out; omega
        have hs : (⟨#[]⟩ : ByteArray) ++ (⟨#[dch d]⟩ ++ ⟨l.toArray⟩) = ⟨([] ++ ([dch d] ++ l)).toArray⟩ := by
          rw [show (⟨#[dch d]⟩ : ByteArray) = ⟨[dch d].toArray⟩ from rfl, show (⟨#[]⟩ : ByteArray) = ⟨([] : List UInt8).toArray⟩ from rfl, ByteArray.mk_append_mk, ByteArray.mk_append_mk]
        refine ⟨ret_string ?_, rfl⟩
        rw [hs]
        congr 2
        have he := HE.out
        rw [HDIG.out, if_pos (by omega), hk0] at he
        unfold decS
        rw [if_neg (by omega), he]; rfl
      · have hzb : ((q : Int) == 0) = false := by simp; omega
        go_wp2
        have hp : 10 ^ (f + 1) = 10 ^ f * 10 := Nat.pow_succ 10 f
        have hk0 := HKQ.out
        have hf1 : 1 ≤ f := by
          rcases Nat.eq_zero_or_pos f with rfl | h
          · simp at hk; omega
          · exact h
        refine ⟨⟨f, q, dch d :: l, by omega, hf1, by simp; omega, rfl, ?_, ?_, by omega, by simp⟩, by simp [intOf]; omega⟩
        · rw [show (⟨#[dch d]⟩ : ByteArray) = ⟨[dch d].toArray⟩ from rfl, ByteArray.mk_append_mk]; rfl
        · rw [HE.out, HDIG.out, if_neg (by omega)]; simp

end Go.Proofs.YteidojpklpfdeaaDoor

/- The walks of word.value, word.Parse, word.ParseInt. -/
namespace Go.Proofs.YteidojpklpfdeaaDoor
open Go.RowKit
attribute [local go_sem] setCell_drewN alloc_drewN
set_option linter.unusedVariables false
set_option linter.unusedSimpArgs false

set_option maxHeartbeats 1000000 in
theorem value_any (c : UInt8) (w : World) :
    Calls Tryd.prog 131 #[.int .u8 (c.toNat : Int)] w fun e w' => e = .returned (.int .u64 (pval c : Int)) ∧ w = w' := by
  have hc := c.toNat_lt
  have HP := hid (show pval c = if 48 ≤ c.toNat ∧ c.toNat ≤ 57 then c.toNat - 48 else if 97 ≤ c.toNat ∧ c.toNat ≤ 102 then c.toNat - 87 else 99 from rfl)
  generalize pval c = p at *
  generalize c.toNat = n at *
  by_cases h1 : 48 ≤ n ∧ n ≤ 57
  · obtain ⟨a1, a2⟩ := h1
    have b1 : decide ((48 : Int) ≤ (n : Int)) = true := by simp; omega
    have b2 : decide ((n : Int) ≤ 57) = true := by simp; omega
    go_enter Tryd.func131, Tryd.ntmps131
    go_wp2
    go_ret
    exact ⟨ret_int (by rw [HP.out, if_pos ⟨a1, a2⟩]; omega), rfl⟩
  · by_cases h2 : 97 ≤ n ∧ n ≤ 102
    · obtain ⟨a1, a2⟩ := h2
      have b1 : decide ((48 : Int) ≤ (n : Int)) = true := by simp; omega
      have b2 : decide ((n : Int) ≤ 57) = false := by simp; omega
      have b3 : decide ((97 : Int) ≤ (n : Int)) = true := by simp; omega
      have b4 : decide ((n : Int) ≤ 102) = true := by simp; omega
      go_enter Tryd.func131, Tryd.ntmps131
      go_wp2
      go_ret
      exact ⟨ret_int (by rw [HP.out, if_neg h1, if_pos ⟨a1, a2⟩]; omega), rfl⟩
    · go_enter Tryd.func131, Tryd.ntmps131
      go_wp2
      all_goals
        go_ret
        exact ⟨ret_int (by rw [HP.out, if_neg h1, if_neg h2]; rfl), rfl⟩

set_option maxHeartbeats 4000000 in
theorem parse_any (l : List UInt8) (w : World) (hl : l.length < 4611686018427387904) :
    Calls Tryd.prog 126 #[.string ⟨l.toArray⟩] w fun e w' => e = .returned (.tuple #[.int .u64 ((parseW l).getD 0 : Nat), .bool (parseW l).isSome]) ∧ ∃ k, w' = w.drewN k := by
  by_cases hp : 2 < l.length ∧ l[0]? = some 48 ∧ l[1]? = some 120
  · obtain ⟨p1, p2, p3⟩ := hp
    have hlen : (2 : Int) < (l.length : Int) := by omega
    obtain ⟨t, rfl⟩ : ∃ t, l = 48 :: 120 :: t := by
      match l, p1, p2, p3 with
      | a :: b :: t, _, h2, h3 => exact ⟨t, by simp at h2 h3; rw [h2, h3]⟩
    have hpre : (((⟨(48 :: 120 :: t).toArray⟩ : ByteArray).extract 0 2).toList == [48, 120]) = true := by
      rw [ByteArray.extract_mk, ByteArray.toList_eq]; rfl
    have hE : (⟨(48 :: 120 :: t).toArray⟩ : ByteArray).extract 2 (t.length + 1 + 1) = ⟨t.toArray⟩ := by
      rw [ByteArray.extract_mk]; simp
    have hte : t.isEmpty = false := by
      cases t with
      | nil => simp at p1
      | cons => rfl
    have htl : t.length < 4611686018427387904 := by simp at hl; omega
    have hpw : parseW (48 :: 120 :: t) = pfold 16 t 0 := by unfold parseW; rw [if_pos ⟨p1, rfl, rfl⟩]; rfl
    go_enter Tryd.func126, Tryd.ntmps126
    go_wp2
    go_quiet (fail)
    go_wp2
    go_loopw [5, 22] (fun n i wr => ∃ (k m : Nat), k ≤ t.length ∧ i = .int .i64 k ∧ n = .int .u64 m ∧ m < 18446744073709551616 ∧ pfold 16 t 0 = pfold 16 (t.drop k) m ∧ w.drewN nq = wr)
      (fun _ i _ => t.length - (intOf i).toNat)
    case atStart => exact ⟨0, 0, by omega, rfl, rfl, by omega, rfl, by simp⟩
    case round =>
      obtain ⟨k, m, hk, rfl, rfl, hm, he, rfl⟩ := hrel
      have HE := hid he; clear he
      by_cases hlt : k < t.length
      · have hc : t.drop k = (⟨t.toArray⟩ : ByteArray)[k] :: t.drop (k + 1) := by rw [List.drop_eq_getElem_cons hlt]; rfl
        rw [hc] at HE
        generalize hcc : (⟨t.toArray⟩ : ByteArray)[k] = c at *
        have HC := hid hcc; clear hc
        have HV := hid (fun w => value_any c w)
        have HF := hid (show pfold 16 (c :: t.drop (k + 1)) m = if 16 ≤ pval c ∨ (18446744073709551615 - pval c) / 16 < m then none else pfold 16 (t.drop (k + 1)) (m * 16 + pval c) from (by simp only [pfold]))
        have h99 : pval c ≤ 99 := by unfold pval; split <;> (try split) <;> omega
        generalize pval c = p at *
        obtain ⟨q, hq⟩ : ∃ q, q = (18446744073709551615 - p) / 16 := ⟨_, rfl⟩
        rw [← hq] at HF
        have hqi : (18446744073709551615 - (p : Int)) / 16 = (q : Int) := by omega
        have hqb : q * 16 + p ≤ 18446744073709551615 := by omega
        have hkw : wrap64 ((k : Int) + 1) = (k : Int) + 1 := by unfold wrap64; omega
        clear hq
        by_cases h1 : 16 ≤ p
        · have b1 : decide ((16 : Int) ≤ (p : Int)) = true := by simp; omega
          go_wp2_with (go_at_call 131; refine (HV.out _).mono ?_; rintro e w' ⟨rfl, rfl⟩)
          go_ret2
          exact ⟨by rw [hpw, HE.out, HF.out, if_pos (.inl h1)]; rfl, nq, rfl⟩
        · have b1 : decide ((16 : Int) ≤ (p : Int)) = false := by simp; omega
          by_cases h2 : q < m
          · have b2 : decide ((q : Int) < (m : Int)) = true := by simp; omega
            go_wp2_with (go_at_call 131; refine (HV.out _).mono ?_; rintro e w' ⟨rfl, rfl⟩)
            go_ret2
            exact ⟨by rw [hpw, HE.out, HF.out, if_pos (.inr h2)]; rfl, nq, rfl⟩
          · have b2 : decide ((q : Int) < (m : Int)) = false := by simp; omega
            have hmb : m * 16 + p ≤ 18446744073709551615 := by omega
            go_wp2_with (go_at_call 131; refine (HV.out _).mono ?_; rintro e w' ⟨rfl, rfl⟩)
            refine ⟨⟨k + 1, m * 16 + p, by omega, by go_num, by go_num, by omega, ?_, by simp⟩, by simp [intOf]; omega⟩
            rw [HE.out, HF.out, if_neg (by omega)]
      · have e : k = t.length := by omega
        have hn : pfold 16 t 0 = some m := by rw [HE.out, e, List.drop_length]; rfl
        subst e
        go_wp2
        go_ret2
        exact ⟨by rw [hpw, hn]; rfl, nq, rfl⟩
  · have hnp : (2 < l.length ∧ (((⟨l.toArray⟩ : ByteArray).extract 0 2).toList == [48, 120]) = false) ∨ l.length ≤ 2 := by
      by_cases h2 : 2 < l.length
      · left
        match l, h2, hp with
        | a :: b :: r, h2, hp =>
          refine ⟨h2, ?_⟩
          rw [ByteArray.extract_mk, ByteArray.toList_eq]
          simp only [List.drop_zero, Nat.sub_zero, List.take_succ_cons, List.take_zero]
          rw [beq_eq_false_iff_ne]
          intro h
          apply hp
          have h' : [a, b] = [48, 120] := h
          injection h' with h3 h4
          injection h4 with h4 _
          exact ⟨h2, by simp [h3], by simp [h4]⟩
      · right; omega
    cases hem : l.isEmpty with
    | true =>
      have hl0 : l = [] := List.isEmpty_iff.1 hem
      subst hl0
      go_enter Tryd.func126, Tryd.ntmps126
      go_wp2
      go_ret2
      exact ⟨rfl, 0, rfl⟩
    | false =>
      have hne : l ≠ [] := by intro h; rw [h] at hem; cases hem
      have hpw : parseW l = pfold 10 l 0 := by unfold parseW; rw [if_neg hp, if_neg hne]
      rcases hnp with ⟨hl2, hnp⟩ | hnp
      · have hlen : decide ((2 : Int) < (l.length : Int)) = true := by simp; omega
        go_enter Tryd.func126, Tryd.ntmps126
        go_wp2
        go_loopw [5, 22] (fun n i wr => ∃ (k m : Nat), k ≤ l.length ∧ i = .int .i64 k ∧ n = .int .u64 m ∧ m < 18446744073709551616 ∧ pfold 10 l 0 = pfold 10 (l.drop k) m ∧ w = wr)
          (fun _ i _ => l.length - (intOf i).toNat)
        case atStart => exact ⟨0, 0, by omega, rfl, rfl, by omega, rfl, by simp⟩
        case round =>
          obtain ⟨k, m, hk, rfl, rfl, hm, he, rfl⟩ := hrel
          have HE := hid he; clear he
          by_cases hlt : k < l.length
          · have hc : l.drop k = (⟨l.toArray⟩ : ByteArray)[k] :: l.drop (k + 1) := by rw [List.drop_eq_getElem_cons hlt]; rfl
            rw [hc] at HE
            generalize hcc : (⟨l.toArray⟩ : ByteArray)[k] = c at *
            have HC := hid hcc; clear hc
            have HV := hid (fun w => value_any c w)
            have HF := hid (show pfold 10 (c :: l.drop (k + 1)) m = if 10 ≤ pval c ∨ (18446744073709551615 - pval c) / 10 < m then none else pfold 10 (l.drop (k + 1)) (m * 10 + pval c) from (by simp only [pfold]))
            have h99 : pval c ≤ 99 := by unfold pval; split <;> (try split) <;> omega
            generalize pval c = p at *
            obtain ⟨q, hq⟩ : ∃ q, q = (18446744073709551615 - p) / 10 := ⟨_, rfl⟩
            rw [← hq] at HF
            have hqi : (18446744073709551615 - (p : Int)) / 10 = (q : Int) := by omega
            have hqb : q * 10 + p ≤ 18446744073709551615 := by omega
            have hkw : wrap64 ((k : Int) + 1) = (k : Int) + 1 := by unfold wrap64; omega
            clear hq
            by_cases h1 : 10 ≤ p
            · have b1 : decide ((10 : Int) ≤ (p : Int)) = true := by simp; omega
              go_wp2_with (go_at_call 131; refine (HV.out _).mono ?_; rintro e w' ⟨rfl, rfl⟩)
              go_ret2
              exact ⟨by rw [hpw, HE.out, HF.out, if_pos (.inl h1)]; rfl, 0, rfl⟩
            · have b1 : decide ((10 : Int) ≤ (p : Int)) = false := by simp; omega
              by_cases h2 : q < m
              · have b2 : decide ((q : Int) < (m : Int)) = true := by simp; omega
                go_wp2_with (go_at_call 131; refine (HV.out _).mono ?_; rintro e w' ⟨rfl, rfl⟩)
                go_ret2
                exact ⟨by rw [hpw, HE.out, HF.out, if_pos (.inr h2)]; rfl, 0, rfl⟩
              · have b2 : decide ((q : Int) < (m : Int)) = false := by simp; omega
                have hmb : m * 10 + p ≤ 18446744073709551615 := by omega
                go_wp2_with (go_at_call 131; refine (HV.out _).mono ?_; rintro e w' ⟨rfl, rfl⟩)
                refine ⟨⟨k + 1, m * 10 + p, by omega, by go_num, by go_num, by omega, ?_, by simp⟩, by simp [intOf]; omega⟩
                rw [HE.out, HF.out, if_neg (by omega)]
          · have e : k = l.length := by omega
            have hn : pfold 10 l 0 = some m := by rw [HE.out, e, List.drop_length]; rfl
            subst e
            go_wp2
            go_ret2
            exact ⟨by rw [hpw, hn]; rfl, 0, rfl⟩
      · have hlen : decide ((2 : Int) < (l.length : Int)) = false := by simp; omega
        go_enter Tryd.func126, Tryd.ntmps126
        go_wp2
        go_loopw [5, 22] (fun n i wr => ∃ (k m : Nat), k ≤ l.length ∧ i = .int .i64 k ∧ n = .int .u64 m ∧ m < 18446744073709551616 ∧ pfold 10 l 0 = pfold 10 (l.drop k) m ∧ w = wr)
          (fun _ i _ => l.length - (intOf i).toNat)
        case atStart => exact ⟨0, 0, by omega, rfl, rfl, by omega, rfl, by simp⟩
        case round =>
          obtain ⟨k, m, hk, rfl, rfl, hm, he, rfl⟩ := hrel
          have HE := hid he; clear he
          by_cases hlt : k < l.length
          · have hc : l.drop k = (⟨l.toArray⟩ : ByteArray)[k] :: l.drop (k + 1) := by rw [List.drop_eq_getElem_cons hlt]; rfl
            rw [hc] at HE
            generalize hcc : (⟨l.toArray⟩ : ByteArray)[k] = c at *
            have HC := hid hcc; clear hc
            have HV := hid (fun w => value_any c w)
            have HF := hid (show pfold 10 (c :: l.drop (k + 1)) m = if 10 ≤ pval c ∨ (18446744073709551615 - pval c) / 10 < m then none else pfold 10 (l.drop (k + 1)) (m * 10 + pval c) from (by simp only [pfold]))
            have h99 : pval c ≤ 99 := by unfold pval; split <;> (try split) <;> omega
            generalize pval c = p at *
            obtain ⟨q, hq⟩ : ∃ q, q = (18446744073709551615 - p) / 10 := ⟨_, rfl⟩
            rw [← hq] at HF
            have hqi : (18446744073709551615 - (p : Int)) / 10 = (q : Int) := by omega
            have hqb : q * 10 + p ≤ 18446744073709551615 := by omega
            have hkw : wrap64 ((k : Int) + 1) = (k : Int) + 1 := by unfold wrap64; omega
            clear hq
            by_cases h1 : 10 ≤ p
            · have b1 : decide ((10 : Int) ≤ (p : Int)) = true := by simp; omega
              go_wp2_with (go_at_call 131; refine (HV.out _).mono ?_; rintro e w' ⟨rfl, rfl⟩)
              go_ret2
              exact ⟨by rw [hpw, HE.out, HF.out, if_pos (.inl h1)]; rfl, 0, rfl⟩
            · have b1 : decide ((10 : Int) ≤ (p : Int)) = false := by simp; omega
              by_cases h2 : q < m
              · have b2 : decide ((q : Int) < (m : Int)) = true := by simp; omega
                go_wp2_with (go_at_call 131; refine (HV.out _).mono ?_; rintro e w' ⟨rfl, rfl⟩)
                go_ret2
                exact ⟨by rw [hpw, HE.out, HF.out, if_pos (.inr h2)]; rfl, 0, rfl⟩
              · have b2 : decide ((q : Int) < (m : Int)) = false := by simp; omega
                have hmb : m * 10 + p ≤ 18446744073709551615 := by omega
                go_wp2_with (go_at_call 131; refine (HV.out _).mono ?_; rintro e w' ⟨rfl, rfl⟩)
                refine ⟨⟨k + 1, m * 10 + p, by omega, by go_num, by go_num, by omega, ?_, by simp⟩, by simp [intOf]; omega⟩
                rw [HE.out, HF.out, if_neg (by omega)]
          · have e : k = l.length := by omega
            have hn : pfold 10 l 0 = some m := by rw [HE.out, e, List.drop_length]; rfl
            subst e
            go_wp2
            go_ret2
            exact ⟨by rw [hpw, hn]; rfl, 0, rfl⟩

theorem parseW_lt (l : List UInt8) (n : Nat) (h : parseW l = some n) : n < 18446744073709551616 := by
  have key : ∀ (b : Nat) (l : List UInt8) (m n : Nat), 1 ≤ b → m < 18446744073709551616 → pfold b l m = some n → n < 18446744073709551616 := by
    intro b l
    induction l with
    | nil => intro m n _ hm h; simp only [pfold, Option.some.injEq] at h; omega
    | cons c l ih =>
      intro m n hb hm h
      simp only [pfold] at h
      split at h
      · cases h
      · next hc =>
        refine ih _ n hb ?_ h
        have h9 : pval c ≤ 99 := by unfold pval; split <;> (try split) <;> omega
        have h1 : m ≤ (18446744073709551615 - pval c) / b := by omega
        have h2 := (Nat.le_div_iff_mul_le (by omega)).1 h1
        omega
  unfold parseW at h
  split at h
  · exact key 16 _ 0 n (by omega) (by omega) h
  · split at h
    · cases h
    · exact key 10 _ 0 n (by omega) (by omega) h

set_option maxHeartbeats 1000000 in
theorem parseInt_any (l : List UInt8) (w : World) (hl : l.length < 4611686018427387904) :
    Calls Tryd.prog 117 #[.string ⟨l.toArray⟩] w fun e w' => e = .returned (.tuple #[.int .i64 ((parseI l).getD 0), .bool (parseI l).isSome]) ∧ ∃ k, w' = w.drewN k := by
  cases l with
  | nil =>
    have HP := hid (fun w => parse_any [] w (by simp))
    go_enter Tryd.func117, Tryd.ntmps117
    go_wp2_with (go_at_call 126; refine (HP.out _).mono ?_; rintro e w' ⟨rfl, k, rfl⟩; simp only [show parseW [] = none from rfl, Option.getD_none, Option.isSome_none])
    go_ret2
    exact ⟨rfl, k, rfl⟩
  | cons c t =>
    have hx : (⟨(c :: t).toArray⟩ : ByteArray).extract 1 (t.length + 1) = ⟨t.toArray⟩ := by rw [ByteArray.extract_mk]; simp
    by_cases hc : c = 45
    · subst hc
      have HP := hid (fun w => parse_any t w (by simp at hl; omega))
      have hI : parseI (45 :: t) = (parseW t).bind fun n => if 9223372036854775808 < n then none else some (-(n : Int)) := by unfold parseI; rw [if_pos (show (45 :: t)[0]? = some 45 from rfl)]; rfl
      cases hw : parseW t with
      | none =>
        rw [hw] at HP hI
        simp only [Option.getD_none, Option.isSome_none] at HP
        go_enter Tryd.func117, Tryd.ntmps117
        go_wp2_with (go_at_call 126; refine (HP.out _).mono ?_; rintro e w' ⟨rfl, k, rfl⟩)
        go_ret2
        exact ⟨by rw [hI]; rfl, k, rfl⟩
      | some n =>
        have hn := parseW_lt t n hw
        rw [hw] at HP hI
        simp only [Option.getD_some, Option.isSome_some] at HP
        by_cases h2 : 9223372036854775808 < n
        · have b1 : decide ((9223372036854775808 : Int) < (n : Int)) = true := by simp; omega
          go_enter Tryd.func117, Tryd.ntmps117
          go_wp2_with (go_at_call 126; refine (HP.out _).mono ?_; rintro e w' ⟨rfl, k, rfl⟩)
          go_ret2
          exact ⟨by rw [hI]; simp [h2], k, rfl⟩
        · have b1 : decide ((9223372036854775808 : Int) < (n : Int)) = false := by simp; omega
          go_enter Tryd.func117, Tryd.ntmps117
          go_wp2_with (go_at_call 126; refine (HP.out _).mono ?_; rintro e w' ⟨rfl, k, rfl⟩)
          go_ret2
          have hval : wrap64 (IntKind.u64.wrap (-(n : Int))) = -(n : Int) := by rw [IntKind.wrap_u64]; unfold wrap64; omega
          refine ⟨?_, k, rfl⟩
          rw [hI, hval]
          simp [h2]
    · have hb0 : (⟨(c :: t).toArray⟩ : ByteArray)[0]'(by simp [ByteArray.size]) = c := rfl
      have hb1 : ((c.toNat : Int) == 45) = false := by
        rw [beq_eq_false_iff_ne]
        intro h
        exact hc (UInt8.toNat_inj.1 (show c.toNat = (45 : UInt8).toNat by simp; omega))
      have HP := hid (fun w => parse_any (c :: t) w hl)
      have hI : parseI (c :: t) = (parseW (c :: t)).bind fun n => if 9223372036854775808 ≤ n then none else some (n : Int) := by unfold parseI; rw [if_neg (by simpa using hc)]
      cases hw : parseW (c :: t) with
      | none =>
        rw [hw] at HP hI
        simp only [Option.getD_none, Option.isSome_none] at HP
        go_enter Tryd.func117, Tryd.ntmps117
        go_wp2_with (go_at_call 126; refine (HP.out _).mono ?_; rintro e w' ⟨rfl, k, rfl⟩)
        go_ret2
        exact ⟨by rw [hI]; rfl, k, rfl⟩
      | some n =>
        have hn := parseW_lt _ n hw
        rw [hw] at HP hI
        simp only [Option.getD_some, Option.isSome_some] at HP
        by_cases h2 : 9223372036854775808 ≤ n
        · have b1 : decide ((9223372036854775808 : Int) ≤ (n : Int)) = true := by simp; omega
          go_enter Tryd.func117, Tryd.ntmps117
          go_wp2_with (go_at_call 126; refine (HP.out _).mono ?_; rintro e w' ⟨rfl, k, rfl⟩)
          go_ret2
          exact ⟨by rw [hI]; simp [h2], k, rfl⟩
        · have b1 : decide ((9223372036854775808 : Int) ≤ (n : Int)) = false := by simp; omega
          have hwn : wrap64 (n : Int) = (n : Int) := by unfold wrap64; omega
          go_enter Tryd.func117, Tryd.ntmps117
          go_wp2_with (go_at_call 126; refine (HP.out _).mono ?_; rintro e w' ⟨rfl, k, rfl⟩)
          go_ret2
          exact ⟨by rw [hI]; simp [h2], k, rfl⟩

end Go.Proofs.YteidojpklpfdeaaDoor

/- The walks of asm.Reg, asm.suffix, asm.numbered. -/
namespace Go.Proofs.YteidojpklpfdeaaDoor
open Go.RowKit
attribute [local go_sem] setCell_drewN alloc_drewN
set_option linter.unusedVariables false
set_option linter.unusedSimpArgs false

set_option maxHeartbeats 1000000 in
theorem reg_text (n : Int) (w : World) (h0 : -9223372036854775808 ≤ n) (h1 : n < 9223372036854775808) :
    Calls Tryd.prog 22 #[.int .i64 n] w fun e w' => e = .returned (.string ⟨(regS n).toArray⟩) ∧ w = w' := by
  have hl : (decS n).length ≤ 21 := by
    have key : ∀ f k, (digsF 10 f k).length ≤ f := by
      intro f
      induction f with
      | zero => intro k; simp [digsF]
      | succ f ih =>
        intro k
        unfold digsF
        split
        · simp
        · have := ih (k / 10)
          simp; omega
    unfold decS
    split
    · have := key 20 (-n).toNat; simp; omega
    · have := key 20 n.toNat; omega
  have HD := hid (fun w => dec_any n w h0 h1)
  generalize hds : decS n = l at *
  have HDS := hid hds; clear hds
  go_enter Tryd.func22, Tryd.ntmps22
  go_wp2_with (go_at_call 33; refine (HD.out _).mono ?_; rintro e w' ⟨rfl, rfl⟩)
  go_ret
  refine ⟨ret_string ?_, rfl⟩
  unfold regS
  rw [HDS.out, show (⟨#[120]⟩ : ByteArray) = ⟨([120] : List UInt8).toArray⟩ from rfl, ByteArray.mk_append_mk]
  rfl

set_option maxHeartbeats 1000000 in
theorem suffix_any (x : Ins) (w : World) :
    Calls Tryd.prog 40 #[.agg #[.int .i64 x.op, .int .i64 x.rd, .int .i64 x.rs1, .int .i64 x.rs2, .int .i64 x.imm, .int .i64 x.csr, .bool x.aq, .bool x.rl]] w fun e w' => e = .returned (.string ⟨(sufS x.aq x.rl).toArray⟩) ∧ Below w.heap.size w w' := by
  obtain ⟨op, rd, rs1, rs2, imm, csr, aq, rl⟩ := x
  cases aq <;> cases rl
  all_goals
    go_enter Tryd.func40, Tryd.ntmps40
    go_wp2
    go_ret
    exact ⟨rfl, (Below.refl _ _).alloc (Nat.le_refl _) _⟩

def numberedB (op : Int) : Bool := [4, 22, 23, 24, 25, 26, 27, 28, 29, 30, 41, 42, 43, 44, 50, 51].any (· == op)

set_option maxHeartbeats 1000000 in
theorem numbered_any (op : Int) (w : World) :
    Calls Tryd.prog 42 #[.int .i64 op] w fun e w' => e = .returned (.bool (numberedB op)) ∧ w = w' := by
  have HN := hid (show numberedB op = [4, 22, 23, 24, 25, 26, 27, 28, 29, 30, 41, 42, 43, 44, 50, 51].any (· == op) from rfl)
  go_enter Tryd.func42, Tryd.ntmps42
  go_wp2
  all_goals
    go_ret
    refine ⟨ret_bool ?_, rfl⟩
    rw [HN.out]
    first | (simp_all; done) | (simp_all; omega)

end Go.Proofs.YteidojpklpfdeaaDoor

/- The walks of vireoref01: text, Hex, Dec: a number's digits. -/
namespace Go.Proofs.YteidojpklpfdeaaDoor
open Go.RowKit
attribute [local go_sem] setCell_drewN alloc_drewN
set_option linter.unusedVariables false
set_option linter.unusedSimpArgs false

theorem digs_len (b : Nat) : ∀ f n, (digsF b f n).length ≤ f := by
  intro f
  induction f with
  | zero => intro n; simp [digsF]
  | succ f ih =>
    intro n
    unfold digsF
    split
    · simp
    · have := ih (n / b); simp; omega

set_option maxHeartbeats 1000000 in
theorem rtext10 : ∀ (f n : Nat) (w : World), n < 10 ^ f → 1 ≤ f → f ≤ 100 → n < 18446744073709551616 →
    Calls Tryd.prog 98 #[.int .u64 n, .int .u64 10] w fun e w' => e = .returned (.string ⟨(digsF 10 f n).toArray⟩) ∧ ∃ k, w' = w.drewN k := by
  intro f
  induction f with
  | zero => intro n w _ h; omega
  | succ f ih =>
    intro n w hn hf hf2 h64
    have HDIG := hid (show digsF 10 (f + 1) n = if n < 10 then [dch n] else digsF 10 f (n / 10) ++ [dch (n % 10)] from rfl)
    obtain ⟨d, hd0⟩ : ∃ d, d = n % 10 := ⟨_, rfl⟩
    obtain ⟨q, hq0⟩ : ∃ q, q = n / 10 := ⟨_, rfl⟩
    rw [← hd0, ← hq0] at HDIG
    have hm : (n : Int) % 10 = (d : Int) := by omega
    have hdv : (n : Int) / 10 = (q : Int) := by omega
    have hd10 : d < 10 := by omega
    have hkq : n = 10 * q + d := by omega
    have HKQ := hid hkq
    clear hd0 hq0 hkq
    have hsl := fun w => slice_digit d (by omega) w
    have hwr : IntKind.u64.wrap ((d : Int) + 1) = (d : Int) + 1 := by rw [IntKind.wrap_u64]; omega
    by_cases hlt : n < 10
    · have hb : decide ((n : Int) < 10) = true := by simp; omega
      go_enter Tryd.func98, Tryd.ntmps98
      go_wp2_with fail
      go_quiet (fail)
      go_wp2_with fail
      go_ret
      exact ⟨ret_string (by rw [HDIG.out, if_pos hlt]; congr; have := HKQ.out; omega), _, rfl⟩
    · have hb : decide ((n : Int) < 10) = false := by simp; omega
      have hp : 10 ^ (f + 1) = 10 ^ f * 10 := Nat.pow_succ 10 f
      have hq := HKQ.out
      have hf1 : 1 ≤ f := by
        rcases Nat.eq_zero_or_pos f with rfl | h
        · simp at hn; omega
        · exact h
      have HI := hid (fun w => ih q w (by omega) hf1 (by omega) (by omega))
      have hl := digs_len 10 f q
      have hadd := fun w => add_lists (digsF 10 f q) [dch d] 9 w (by simp; omega)
      clear ih hp hq hn
      go_enter Tryd.func98, Tryd.ntmps98
      go_wp2_with fail
      go_quiet (fail)
      go_wp2_with (go_at_call 98; refine (HI.out _).mono ?_; rintro e w' ⟨rfl, k2, rfl⟩)
      go_ret
      exact ⟨ret_string (by rw [HDIG.out, if_neg hlt, show (⟨#[dch d]⟩ : ByteArray) = ⟨[dch d].toArray⟩ from rfl]; try rw [ByteArray.mk_append_mk]), _, rfl⟩

set_option maxHeartbeats 1000000 in
theorem rtext16 : ∀ (f n : Nat) (w : World), n < 16 ^ f → 1 ≤ f → f ≤ 100 → n < 18446744073709551616 →
    Calls Tryd.prog 98 #[.int .u64 n, .int .u64 16] w fun e w' => e = .returned (.string ⟨(digsF 16 f n).toArray⟩) ∧ ∃ k, w' = w.drewN k := by
  intro f
  induction f with
  | zero => intro n w _ h; omega
  | succ f ih =>
    intro n w hn hf hf2 h64
    have HDIG := hid (show digsF 16 (f + 1) n = if n < 16 then [dch n] else digsF 16 f (n / 16) ++ [dch (n % 16)] from rfl)
    obtain ⟨d, hd0⟩ : ∃ d, d = n % 16 := ⟨_, rfl⟩
    obtain ⟨q, hq0⟩ : ∃ q, q = n / 16 := ⟨_, rfl⟩
    rw [← hd0, ← hq0] at HDIG
    have hm : (n : Int) % 16 = (d : Int) := by omega
    have hdv : (n : Int) / 16 = (q : Int) := by omega
    have hd10 : d < 16 := by omega
    have hkq : n = 16 * q + d := by omega
    have HKQ := hid hkq
    clear hd0 hq0 hkq
    have hsl := fun w => slice_digit d (by omega) w
    have hwr : IntKind.u64.wrap ((d : Int) + 1) = (d : Int) + 1 := by rw [IntKind.wrap_u64]; omega
    by_cases hlt : n < 16
    · have hb : decide ((n : Int) < 16) = true := by simp; omega
      go_enter Tryd.func98, Tryd.ntmps98
      go_wp2_with fail
      go_quiet (fail)
      go_wp2_with fail
      go_ret
      exact ⟨ret_string (by rw [HDIG.out, if_pos hlt]; congr; have := HKQ.out; omega), _, rfl⟩
    · have hb : decide ((n : Int) < 16) = false := by simp; omega
      have hp : 16 ^ (f + 1) = 16 ^ f * 16 := Nat.pow_succ 16 f
      have hq := HKQ.out
      have hf1 : 1 ≤ f := by
        rcases Nat.eq_zero_or_pos f with rfl | h
        · simp at hn; omega
        · exact h
      have HI := hid (fun w => ih q w (by omega) hf1 (by omega) (by omega))
      have hl := digs_len 16 f q
      have hadd := fun w => add_lists (digsF 16 f q) [dch d] 9 w (by simp; omega)
      clear ih hp hq hn
      go_enter Tryd.func98, Tryd.ntmps98
      go_wp2_with fail
      go_quiet (fail)
      go_wp2_with (go_at_call 98; refine (HI.out _).mono ?_; rintro e w' ⟨rfl, k2, rfl⟩)
      go_ret
      exact ⟨ret_string (by rw [HDIG.out, if_neg hlt, show (⟨#[dch d]⟩ : ByteArray) = ⟨[dch d].toArray⟩ from rfl]; try rw [ByteArray.mk_append_mk]), _, rfl⟩

theorem xor_all (x : Int) (h0 : 0 ≤ x) (h1 : x < 18446744073709551616) : bits .xor .u64 18446744073709551615 x = 18446744073709551615 - x := by
  obtain ⟨v, rfl⟩ := Int.eq_ofNat_of_zero_le h0
  have := u64_xor_nat 18446744073709551615 v (by omega) (by omega)
  rw [show ((18446744073709551615 : Int)) = ((18446744073709551615 : Nat) : Int) from rfl, this]
  have e : 18446744073709551615 ^^^ v = 18446744073709551615 - v := by
    have := Nat.xor_comm 18446744073709551615 v
    rw [show (18446744073709551615 : Nat) = 2 ^ 64 - 1 from rfl]
    apply Nat.eq_of_testBit_eq
    intro i
    rw [Nat.testBit_xor, Nat.testBit_two_pow_sub_one, show 2 ^ 64 - 1 - v = 2 ^ 64 - (v + 1) by omega, Nat.testBit_two_pow_sub_succ (by omega)]
    by_cases hi : i < 64
    · simp [hi]
    · simp only [hi, decide_false, Bool.false_bne, Bool.false_and]
      exact Nat.testBit_lt_two_pow (Nat.lt_of_lt_of_le (show v < 2 ^ 64 by omega) (Nat.pow_le_pow_right (by omega) (by omega)))
  rw [e]; omega

set_option maxHeartbeats 1000000 in
theorem rdec_any (n : Int) (w : World) (h0 : -9223372036854775808 ≤ n) (h1 : n < 9223372036854775808) :
    Calls Tryd.prog 59 #[.int .i64 n] w fun e w' => e = .returned (.string ⟨(decS n).toArray⟩) ∧ ∃ k, w' = w.drewN k := by
  by_cases hn : n < 0
  · have HT := hid (fun w => rtext10 20 (-n).toNat w (by omega) (by omega) (by omega) (by omega))
    rw [show (((-n).toNat : Nat) : Int) = -n by omega] at HT
    have HX := hid (show bits .xor .u64 IntKind.u64.max (IntKind.u64.wrap n) = 18446744073709551615 - IntKind.u64.wrap n from xor_all (IntKind.u64.wrap n) (by rw [IntKind.wrap_u64]; omega) (by rw [IntKind.wrap_u64]; omega))
    have HW := hid (show IntKind.u64.wrap (18446744073709551615 - IntKind.u64.wrap n + 1) = -n from (by rw [IntKind.wrap_u64, IntKind.wrap_u64]; omega))
    have hs : digsF 10 20 (-n).toNat = digsF 10 20 (-n).toNat := rfl
    have hl := digs_len 10 20 (-n).toNat
    have HD := hid (show decS n = 45 :: digsF 10 20 (-n).toNat from by unfold decS; rw [if_pos hn])
    generalize digsF 10 20 (-n).toNat = l at *
    clear hs
    go_enter Tryd.func59, Tryd.ntmps59
    go_wp2_with fail
    rw [HX.out, HW.out]
    refine (HT.out _).mono ?_
    rintro e w' ⟨rfl, k, rfl⟩
    go_wp2_with fail
    go_ret
    exact ⟨ret_string (by rw [HD.out, show (⟨#[45]⟩ : ByteArray) = ⟨[45].toArray⟩ from rfl, ByteArray.mk_append_mk]; rfl), _, rfl⟩
  · have HT := hid (fun w => rtext10 20 n.toNat w (by omega) (by omega) (by omega) (by omega))
    rw [show ((n.toNat : Nat) : Int) = n by omega] at HT
    have hw : IntKind.u64.wrap n = n := by rw [IntKind.wrap_u64]; omega
    have HD := hid (show decS n = digsF 10 20 n.toNat from by unfold decS; rw [if_neg hn])
    generalize digsF 10 20 n.toNat = l at *
    go_enter Tryd.func59, Tryd.ntmps59
    go_wp2_with fail
    try rw [hw]
    refine (HT.out _).mono ?_
    rintro e w' ⟨rfl, k, rfl⟩
    go_wp2_with fail
    go_ret
    exact ⟨ret_string (by rw [HD.out]), _, rfl⟩

set_option maxHeartbeats 1000000 in
theorem rhex_any (n : Nat) (w : World) (h1 : n < 18446744073709551616) :
    Calls Tryd.prog 96 #[.int .u64 n] w fun e w' => e = .returned (.string ⟨(hexS n).toArray⟩) ∧ ∃ k, w' = w.drewN k := by
  have HT := hid (fun w => rtext16 16 n w (by omega) (by omega) (by omega) (by omega))
  have hl := digs_len 16 16 n
  have HD := hid (show hexS n = 48 :: 120 :: digsF 16 16 n from rfl)
  generalize digsF 16 16 n = l at *
  go_enter Tryd.func96, Tryd.ntmps96
  go_wp2_with fail
  refine (HT.out _).mono ?_
  rintro e w' ⟨rfl, k, rfl⟩
  go_wp2_with fail
  go_ret
  exact ⟨ret_string (by rw [HD.out, show (⟨#[48, 120]⟩ : ByteArray) = ⟨[48, 120].toArray⟩ from rfl, ByteArray.mk_append_mk]; rfl), _, rfl⟩

end Go.Proofs.YteidojpklpfdeaaDoor
