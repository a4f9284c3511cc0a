/- The walks of vireoref04: Name, Print: the page's text of an instruction. -/
import Derived.Test.YteidojpklpfdeaaDoorRefK
namespace Go.Proofs.YteidojpklpfdeaaDoor
open Go.RowKit
attribute [local go_sem] setCell_drewN alloc_drewN
set_option linter.unusedVariables false
set_option linter.unusedSimpArgs false

theorem name_lenK (op : Int) (h0 : 1 ≤ op) (h1 : op ≤ 98) : (rowAt op).name.data.toList.length ≤ 20 := by
  obtain ⟨n, rfl⟩ := Int.eq_ofNat_of_zero_le (show 0 ≤ op by omega)
  have : ∀ k : Fin 98, (rowAt ((k.val + 1 : Nat) : Int)).name.data.toList.length ≤ 20 := by decide +kernel
  have h := this ⟨n - 1, by omega⟩
  simp only at h
  rwa [show n - 1 + 1 = n by omega] at h

def nameS (x : Ins) : List UInt8 := (rowAt x.op).name.data.toList ++ sufS x.aq x.rl

set_option maxHeartbeats 1000000 in
theorem rname_any (x : Ins) (w : World) (h0 : 1 ≤ x.op) (h1 : x.op ≤ 98) :
    Calls Tryd.prog 57 #[.agg #[.int .i64 x.op, .int .i64 x.rd, .int .i64 x.rs1, .int .i64 x.rs2, .int .i64 x.imm, .int .i64 x.csr, .bool x.aq, .bool x.rl]] w fun e w' => e = .returned (.string ⟨(nameS x).toArray⟩) ∧ Below w.heap.size w w' := by
  have HO := hid (fun w => of_known x.op w h0 h1)
  have hl := name_lenK x.op h0 h1
  have HN := hid (show nameS x = (rowAt x.op).name.data.toList ++ sufS x.aq x.rl from rfl)
  have hrf := run_rrow0'
  generalize nameS x = nn at *
  generalize rowAt x.op = r at *
  obtain ⟨⟨⟨l⟩⟩, form, code, f3, f7⟩ := r
  obtain ⟨op, rd, rs1, rs2, imm, csr, aq, rl⟩ := x
  dsimp only at *
  have a1 : ¬ 9223372036854775807 < l.length + 3 := by omega
  have a2 : ¬ 9223372036854775807 < l.length + 5 := by omega
  clear hl
  cases aq <;> cases rl
  all_goals
    go_enter Tryd.func57, Tryd.ntmps57
    go_wp2_with (go_at_call 61; refine (HO.out _).mono ?_; rintro e w1 ⟨rfl, rfl⟩)
    go_ret
    refine ⟨ret_string ?_, ?_⟩
    · rw [HN.out]; first | rfl | (simp [sufS, ByteArray.mk_append_mk]; done) | (simp only [ByteArray.mk_append_mk]; rfl)
    · (repeat (first | exact Below.refl _ _ | apply bel_drewN | apply Below.drew | refine Below.alloc ?_ (by first | omega | (simp; done) | (simp; omega)) _))

/-- The eight cells of an instruction, and what lies below. -/
def InsAtK (w : World) (g : Nat) (a0 a1 a2 a3 a4 a5 : Int) (a6 a7 : Bool) (wx : World) : Prop :=
  wx.cell? ⟨g, 0, none⟩ = some (.int .i64 a0) ∧ wx.cell? ⟨g, 1, none⟩ = some (.int .i64 a1) ∧ wx.cell? ⟨g, 2, none⟩ = some (.int .i64 a2) ∧ wx.cell? ⟨g, 3, none⟩ = some (.int .i64 a3) ∧ wx.cell? ⟨g, 4, none⟩ = some (.int .i64 a4)
    ∧ wx.cell? ⟨g, 5, none⟩ = some (.int .i64 a5) ∧ wx.cell? ⟨g, 6, none⟩ = some (.bool a6) ∧ wx.cell? ⟨g, 7, none⟩ = some (.bool a7) ∧ g < wx.heap.size ∧ Below w.heap.size w wx

theorem insAtK_step {w wx w' : World} {g : Nat} {a0 a1 a2 a3 a4 a5 : Int} {a6 a7 : Bool} (h : InsAtK w g a0 a1 a2 a3 a4 a5 a6 a7 wx) (hb : Below wx.heap.size wx w') : InsAtK w g a0 a1 a2 a3 a4 a5 a6 a7 w' := by
  obtain ⟨c0, c1, c2, c3, c4, c5, c6, c7, hz, hB⟩ := h
  have c := fun j => hb.cell (p := ⟨g, j, none⟩) hz
  exact ⟨(c 0).trans c0, (c 1).trans c1, (c 2).trans c2, (c 3).trans c3, (c 4).trans c4, (c 5).trans c5, (c 6).trans c6, (c 7).trans c7, Nat.lt_of_lt_of_le hz hb.size, hB.trans (hb.mono hB.size)⟩

theorem insAtK_new {w w' : World} {a0 a1 a2 a3 a4 a5 : Int} {a6 a7 : Bool} {t : TypeId}
    (hb : Below (w.alloc (.cells #[.int .i64 a0, .int .i64 a1, .int .i64 a2, .int .i64 a3, .int .i64 a4, .int .i64 a5, .bool a6, .bool a7] t)).heap.size (w.alloc (.cells #[.int .i64 a0, .int .i64 a1, .int .i64 a2, .int .i64 a3, .int .i64 a4, .int .i64 a5, .bool a6, .bool a7] t)) w') :
    InsAtK w w.heap.size a0 a1 a2 a3 a4 a5 a6 a7 w' :=
  insAtK_step ⟨by rw [World.cell?_alloc_new]; rfl, by rw [World.cell?_alloc_new]; rfl, by rw [World.cell?_alloc_new]; rfl, by rw [World.cell?_alloc_new]; rfl, by rw [World.cell?_alloc_new]; rfl, by rw [World.cell?_alloc_new]; rfl, by rw [World.cell?_alloc_new]; rfl, by rw [World.cell?_alloc_new]; rfl, by simp, (Below.refl _ _).alloc (Nat.le_refl _) _⟩ hb

set_option maxHeartbeats 4000000 in
set_option maxRecDepth 100000 in
theorem rprint_wrong (x : Ins) (hr : right x = false) (w : World) :
    Calls Tryd.prog 21 #[.agg #[.int .i64 x.op, .int .i64 x.rd, .int .i64 x.rs1, .int .i64 x.rs2, .int .i64 x.imm, .int .i64 x.csr, .bool x.aq, .bool x.rl]] w fun e w' => e = .returned (.string ⟨#[]⟩) ∧ Below w.heap.size w w' := by
  have HR := hid (fun w => rright_all x w)
  rw [hr] at HR
  obtain ⟨op, rd, rs1, rs2, imm, csr, aq, rl⟩ := x
  dsimp only at *
  go_enter Tryd.func21, Tryd.ntmps21
  go_wp2_with (go_at_call 24; refine (HR.out _).mono ?_; rintro e w1 ⟨rfl, hb⟩)
  go_ret
  exact ⟨rfl, (((Below.refl w.heap.size w).alloc (Nat.le_refl _) _).trans (hb.mono (by simp)))⟩

def PB (l : List (List UInt8)) : Prop := l.length ≤ 3 ∧ ∀ p ∈ l, p.length ≤ 64
theorem pb_ite {c : Prop} [Decidable c] {a b : List (List UInt8)} (ha : PB a) (hb : PB b) : PB (if c then a else b) := by split <;> assumption
theorem pb0 : PB [] := ⟨Nat.le_of_ble_eq_true rfl, fun p hp => absurd hp (by simp)⟩
theorem pb2 {a b : List UInt8} (ha : a.length ≤ 64) (hb : b.length ≤ 64) : PB [a, b] := ⟨Nat.le_of_ble_eq_true rfl, fun p hp => by
  simp only [List.mem_cons, List.not_mem_nil, or_false] at hp
  rcases hp with rfl | rfl <;> assumption⟩
theorem pb3 {a b c : List UInt8} (ha : a.length ≤ 64) (hb : b.length ≤ 64) (hc : c.length ≤ 64) : PB [a, b, c] := ⟨Nat.le_of_ble_eq_true rfl, fun p hp => by
  simp only [List.mem_cons, List.not_mem_nil, or_false] at hp
  rcases hp with rfl | rfl | rfl <;> assumption⟩

theorem parts_bound (f : Int) (x : Ins) : PB (partsS f x) := by
  have r (n : Int) : (regS n).length ≤ 22 := by have := klen n; simp [regS]; omega
  have h (n : Nat) : (hexS n).length ≤ 18 := by have := digs_len 16 16 n; unfold hexS; simp; omega
  have b (n : Int) : (brS (regS n)).length ≤ 24 := by have := r n; simp [brS]; omega
  have d := klen x.imm
  have d4 := klen (x.imm.tdiv 4096)
  have r1 := r x.rd
  have r2 := r x.rs1
  have r3 := r x.rs2
  have b1 := b x.rs1
  have hh := h x.csr.toNat
  have ds : (decS x.imm ++ brS (regS x.rs1)).length ≤ 64 := by simp only [List.length_append]; omega
  unfold partsS
  repeat' (refine pb_ite ?_ ?_)
  all_goals first | exact pb0 | exact pb2 (by omega) (by omega) | exact pb3 (by omega) (by omega) (by omega)

theorem joinL_snoc (p : List UInt8) : ∀ l : List (List UInt8), l ≠ [] → joinL (l ++ [p]) = joinL l ++ 44 :: p
  | [], h => absurd rfl h
  | [a], _ => by simp [joinL]
  | a :: b :: l, _ => by
    have := joinL_snoc p (b :: l) (by simp)
    simp only [List.cons_append, joinL] at this ⊢
    rw [this]
    simp

/-- The text when k parts are written. -/
def accS (nn : List UInt8) (ps : List (List UInt8)) (k : Nat) : List UInt8 := if k = 0 then nn else nn ++ 32 :: joinL (ps.take k)

theorem accS_one (nn : List UInt8) (ps : List (List UInt8)) (p : List UInt8) (h : ps[0]? = some p) : nn ++ [32] ++ p = accS nn ps 1 := by
  match ps, h with
  | q :: ps, h => simp at h; subst h; simp [accS, joinL]
theorem accS_next (nn : List UInt8) (ps : List (List UInt8)) (p : List UInt8) (k : Nat) (hk : k ≠ 0) (h : ps[k]? = some p) : accS nn ps k ++ [44] ++ p = accS nn ps (k + 1) := by
  have hl : k < ps.length := (List.getElem?_eq_some_iff.1 h).1
  have he : ps[k] = p := (List.getElem?_eq_some_iff.1 h).2
  have ht : ps.take (k + 1) = ps.take k ++ [p] := by rw [List.take_succ_eq_append_getElem hl, he]
  unfold accS
  rw [if_neg hk, if_neg (by omega), ht, joinL_snoc _ _ (by rw [Ne, List.take_eq_nil_iff]; rintro (h | h); exact hk h; subst h; simp at hl)]
  simp
theorem accS_all (nn : List UInt8) (ps : List (List UInt8)) : accS nn ps ps.length = nn ++ (if ps = [] then [] else 32 :: joinL ps) := by
  cases ps with
  | nil => simp [accS]
  | cons a t => simp [accS]

set_option maxHeartbeats 4000000 in
set_option maxRecDepth 100000 in
theorem rprint_right (x : Ins) (hr : right x = true) (w : World) :
    Calls Tryd.prog 21 #[.agg #[.int .i64 x.op, .int .i64 x.rd, .int .i64 x.rs1, .int .i64 x.rs2, .int .i64 x.imm, .int .i64 x.csr, .bool x.aq, .bool x.rl]] w fun e w' => e = .returned (.string ⟨(textS x).toArray⟩) ∧ Below w.heap.size w w' := by
  obtain ⟨hb, _⟩ := right_boundsK x hr
  have HR := hid (fun w => rright_all x w)
  rw [hr] at HR
  have HN := hid (fun w => rname_any x w hb.1 hb.2)
  have HT := hid (fun w => takes_any x hr w)
  have HX := hid (show textS x = nameS x ++ (if partsS (rowAt x.op).form x = [] then [] else 32 :: joinL (partsS (rowAt x.op).form x)) from rfl)
  have HPB := hid (parts_bound (rowAt x.op).form x)
  have hnl : (nameS x).length ≤ 30 := by
    have := name_lenK x.op hb.1 hb.2
    have : (sufS x.aq x.rl).length ≤ 5 := by generalize x.aq = q; generalize x.rl = r; cases q <;> cases r <;> decide
    unfold nameS
    simp only [List.length_append]
    omega
  generalize partsS (rowAt x.op).form x = ps at *
  generalize nameS x = nn at *
  generalize textS x = tx at *
  obtain ⟨op, rd, rs1, rs2, imm, csr, aq, rl⟩ := x
  dsimp only at *
  go_enter Tryd.func21, Tryd.ntmps21
  go_wp2_with fail
  refine (HR.out _).mono ?_
  rintro e w1 ⟨rfl, hb1⟩
  obtain ⟨c0, c1, c2, c3, c4, c5, c6, c7, hz, hB1⟩ := insAtK_new hb1
  clear hb1
  have HB1 := hid hB1; clear hB1
  go_wp2_with fail
  refine (HN.out _).mono ?_
  rintro e w2 ⟨rfl, hb2⟩
  obtain ⟨d0, d1, d2, d3, d4, d5, d6, d7, hz2, hB2⟩ := insAtK_step ⟨c0, c1, c2, c3, c4, c5, c6, c7, hz, HB1.out⟩ hb2
  clear c0 c1 c2 c3 c4 c5 c6 c7 hz HB1 hb2
  have HB2 := hid hB2; clear hB2
  go_wp2_with fail
  refine (HT.out _).mono ?_
  rintro e w3 ⟨v, rfl, ht, hb3⟩
  have HB3 := hid (HB2.out.trans (hb3.mono HB2.out.size)); clear HB2 hb3 d0 d1 d2 d3 d4 d5 d6 d7
  have hpb := HPB.out
  have HNL := hid hnl; clear hnl
  rcases ht with ⟨rfl, rfl⟩ | ⟨B, rfl, hBw, hBw2, hcell⟩
  · go_wp2_with fail
    go_loop [3, 5] (fun s i => s = .string ⟨nn.toArray⟩ ∧ i = .int .i64 0) (fun s i => 0)
    case atStart => exact ⟨rfl, rfl⟩
    case round =>
      obtain ⟨rfl, rfl⟩ := hrel
      go_wp2_with fail
      go_ret
      exact ⟨ret_string (by rw [HX.out]; simp), HB3.out⟩
  · have HC := hid hcell; clear hcell
    obtain ⟨n, hn⟩ : ∃ n, n = ps.length := ⟨_, rfl⟩
    have hn3 : n ≤ 3 := by have := hpb.1; omega
    rw [← hn]
    have HPS := hid hn; clear hn hpb
    go_wp2_with fail
    go_loop [3, 5] (fun s i => ∃ k : Nat, k ≤ n ∧ i = .int .i64 k ∧ (accS nn ps k).length ≤ 30 + 66 * k ∧ s = .string ⟨(accS nn ps k).toArray⟩) (fun s i => n - (intOf i).toNat)
    case atStart => exact ⟨0, by omega, rfl, by have := HNL.out; simp [accS]; omega, by simp [accS]⟩
    case round =>
      obtain ⟨k, hk, rfl, hlen, rfl⟩ := hrel
      by_cases hlt : k < n
      · obtain ⟨p, hp⟩ : ∃ p, ps[k]? = some p := ⟨ps[k]'(by have := HPS.out; omega), by simp [List.getElem?_eq_some_iff]⟩
        have hc := HC.out k p hp
        have hpl : p.length ≤ 64 := HPB.out.2 p (List.mem_of_getElem? hp)
        have HP := hid hp; clear hp
        by_cases hk0 : k = 0
        · subst hk0
          have h1 := accS_one nn ps p HP.out
          rw [show accS nn ps 0 = nn from rfl] at hlen ⊢
          have hl1 : (accS nn ps 1).length ≤ 30 + 66 * 1 := by rw [← h1]; simp; omega
          have H1 := hid (And.intro h1 hl1); clear h1 hl1
          have a1 : ¬ 9223372036854775807 < nn.length + 1 := by omega
          have a2 : ¬ 9223372036854775807 < nn.length + 1 + p.length := by omega
          go_wp2_with fail
          refine ⟨⟨1, by omega, by go_num, H1.out.2, ?_⟩, by simp [intOf] <;> omega⟩
          rw [← H1.out.1]
          simp only [ByteArray.mk_append_mk]
        · have h1 := accS_next nn ps p k hk0 HP.out
          generalize accS nn ps k = ac at *
          have hl1 : (accS nn ps (k + 1)).length ≤ 30 + 66 * (k + 1) := by rw [← h1]; simp; omega
          have H1 := hid (And.intro h1 hl1); clear h1 hl1
          have a1 : ¬ 9223372036854775807 < ac.length + 1 := by omega
          have a2 : ¬ 9223372036854775807 < ac.length + 1 + p.length := by omega
          have a3 : ((k : Int) == 0) = false := by simp; omega
          go_wp2_with fail
          refine ⟨⟨k + 1, by omega, by go_num, H1.out.2, ?_⟩, by simp [intOf] <;> omega⟩
          rw [← H1.out.1]
          simp only [ByteArray.mk_append_mk]
      · have e : k = n := by omega
        subst e
        go_wp2_with fail
        go_ret
        exact ⟨ret_string (by rw [HX.out, ← accS_all, HPS.out]), HB3.out⟩

end Go.Proofs.YteidojpklpfdeaaDoor
