/- Plain: what asm.Print writes is the instruction's text. -/
import Derived.Test.YteidojpklpfdeaaDoorQA3
import Derived.Test.YteidojpklpfdeaaDoorMI
namespace Go.Proofs.YteidojpklpfdeaaDoor
open Go.RowKit Go.Proofs.YteidojpklpfdeaaDoorX.QA
attribute [local go_sem] setCell_drewN alloc_drewN
set_option linter.unusedVariables false
set_option linter.unusedSimpArgs false

theorem size_ba (l : List UInt8) : (⟨l.toArray⟩ : ByteArray).size = l.length := ba_size l

theorem dec_len (n : Int) : (decS n).length ≤ 21 := by
  unfold decS
  split
  · have := digs_len 10 20 (-n).toNat; simp; omega
  · have := digs_len 10 20 n.toNat; omega
theorem reg_len (n : Int) : (regS n).length ≤ 22 := by
  have := dec_len n; unfold regS; simp; omega
theorem hex_len (n : Nat) : (hexS n).length ≤ 18 := by
  have := digs_len 16 16 n; unfold hexS; simp; omega

theorem map_data (ps : List (List UInt8)) : (ps.map fun p => (⟨p.toArray⟩ : ByteArray)).map (·.data.toList) = ps := by
  rw [List.map_map]; conv => rhs; rw [← List.map_id ps]
  rfl

theorem join_f (nm : List UInt8) (ps : List (List UInt8)) (h1 : ps ≠ []) (h2 : ps.length ≤ 1000) (hn : nm.length ≤ 1000) (hj : (joinL ps).length ≤ 1000) :
    asm_join.f ⟨nm.toArray⟩ (ps.map fun p => (⟨p.toArray⟩ : ByteArray)) = some ⟨(nm ++ 32 :: joinL ps).toArray⟩ := by
  have hz : ¬ (((ps.map fun p => (⟨p.toArray⟩ : ByteArray)).length : Int) = 0) := by
    rw [List.length_map]; have := List.length_pos_iff.2 h1; omega
  have hJ : strings_Join.f (ps.map fun p => (⟨p.toArray⟩ : ByteArray)) ⟨#[44]⟩ = some ⟨(joinL ps).toArray⟩ := by
    have e : Lib.join ps (⟨#[44]⟩ : ByteArray).data.toList = joinL ps := join_lib ps
    unfold strings_Join.f
    rw [map_data, e, if_pos ⟨by simp [h1], by rw [List.length_map]; exact h2, by omega⟩]
  unfold asm_join.f
  rw [if_neg hz, if_pos (by rw [size_ba]; omega), hJ, Option.bind_some]
  have e1 : (⟨nm.toArray⟩ : ByteArray) ++ ⟨#[32]⟩ = ⟨(nm ++ [32]).toArray⟩ := ByteArray.mk_append_mk _ _
  rw [e1, if_pos (by rw [size_ba, size_ba, List.length_append]; simp; omega), ByteArray.mk_append_mk]
  simp


theorem join1 (nm a : List UInt8) (hn : nm.length ≤ 1000) (ha : a.length ≤ 100) : asm_join.f ⟨nm.toArray⟩ [⟨a.toArray⟩] = some ⟨(nm ++ 32 :: joinL [a]).toArray⟩ :=
  join_f nm [a] (by simp) (by simp) hn (by simp [joinL]; omega)
theorem join2 (nm a b : List UInt8) (hn : nm.length ≤ 1000) (ha : a.length ≤ 100) (hb : b.length ≤ 100) : asm_join.f ⟨nm.toArray⟩ [⟨a.toArray⟩, ⟨b.toArray⟩] = some ⟨(nm ++ 32 :: joinL [a, b]).toArray⟩ :=
  join_f nm [a, b] (by simp) (by simp) hn (by simp [joinL]; omega)
theorem join3 (nm a b c : List UInt8) (hn : nm.length ≤ 1000) (ha : a.length ≤ 100) (hb : b.length ≤ 100) (hc : c.length ≤ 100) : asm_join.f ⟨nm.toArray⟩ [⟨a.toArray⟩, ⟨b.toArray⟩, ⟨c.toArray⟩] = some ⟨(nm ++ 32 :: joinL [a, b, c]).toArray⟩ :=
  join_f nm [a, b, c] (by simp) (by simp) hn (by simp [joinL]; omega)

theorem app40 (l : List UInt8) : (⟨l.toArray⟩ : ByteArray) ++ ⟨#[40]⟩ = ⟨(l ++ [40]).toArray⟩ := ByteArray.mk_append_mk _ _
theorem app41 (l : List UInt8) : (⟨l.toArray⟩ : ByteArray) ++ ⟨#[41]⟩ = ⟨(l ++ [41]).toArray⟩ := ByteArray.mk_append_mk _ _
theorem pre40 (l : List UInt8) : (⟨#[40]⟩ : ByteArray) ++ ⟨l.toArray⟩ = ⟨([40] ++ l).toArray⟩ := ByteArray.mk_append_mk _ _
theorem apps (l m : List UInt8) : (⟨l.toArray⟩ : ByteArray) ++ ⟨m.toArray⟩ = ⟨(l ++ m).toArray⟩ := ByteArray.mk_append_mk _ _

theorem name_eq (op : Int) : (rowAt op).name = ⟨(rowAt op).name.data.toList.toArray⟩ := ba_eta _
theorem name_len (op : Int) (h0 : 1 ≤ op) (h1 : op ≤ 98) : (rowAt op).name.data.toList.length ≤ 20 := by
  obtain ⟨k, hk, _, _, _, _, h⟩ := fin_op (P := fun k => nameL k ≠ [] ∧ ((nameL k).all fun c => c != 32 && c != 9 && c != 44 && decide (c.toNat < 128)) = true ∧ (nameL k).length ≤ 20) names_ok op h0 h1
  rw [hk]; exact h

/-- What the tests on an operation answer, by its form. -/
structure Tests (op f : Int) : Prop where
  loads : loadsB op = (f == 5)
  stores : storesB op = (f == 6)
  branches : branchesB op = (f == 4)
  systems : systemsB op = (f == 12 || f == 13)
  atomics : atomicsB op = (f == 15 || f == 14)
  numbered : numberedB op = (f == 3 || f == 7 || f == 8 || f == 10)
  upper : (op = 1 ∨ op = 2) ↔ f = 1
  jump : op = 3 ↔ f = 2
  system : (op = 54 ∨ op = 55 ∨ op = 56) ↔ f = 12
  reserve : (op = 73 ∨ op = 84) ↔ f = 14
  two : op = 98 ↔ f = 16
  alone : (op = 52 ∨ op = 53 ∨ op = 95 ∨ op = 96 ∨ op = 97) ↔ f = 11

theorem tests (op : Int) (h0 : 1 ≤ op) (h1 : op ≤ 98) : Tests op (rowAt op).form := by
  have hk : known op = true := by simp [known]; omega
  have key : ∀ i : Fin 98, ((i.val + 1 = 1 ∨ i.val + 1 = 2) ↔ (rowAt ((i.val + 1 : Nat) : Int)).form = 1) ∧ (i.val + 1 = 3 ↔ (rowAt ((i.val + 1 : Nat) : Int)).form = 2) ∧ ((i.val + 1 = 54 ∨ i.val + 1 = 55 ∨ i.val + 1 = 56) ↔ (rowAt ((i.val + 1 : Nat) : Int)).form = 12) ∧ ((i.val + 1 = 73 ∨ i.val + 1 = 84) ↔ (rowAt ((i.val + 1 : Nat) : Int)).form = 14) ∧ (i.val + 1 = 98 ↔ (rowAt ((i.val + 1 : Nat) : Int)).form = 16) ∧ ((i.val + 1 = 52 ∨ i.val + 1 = 53 ∨ i.val + 1 = 95 ∨ i.val + 1 = 96 ∨ i.val + 1 = 97) ↔ (rowAt ((i.val + 1 : Nat) : Int)).form = 11) := by decide +kernel
  have h := key ⟨(op - 1).toNat, by omega⟩
  have e : (((op - 1).toNat + 1 : Nat) : Int) = op := by omega
  simp only [e] at h
  obtain ⟨g1, g2, g3, g4, g5, g6⟩ := h
  exact ⟨by simp [loadsB, hk], by simp [storesB, hk], by simp [branchesB, hk], by simp [systemsB, hk], by simp [atomicsB, hk], numbered_form op h0 h1,
    Iff.trans (by omega) g1, Iff.trans (by omega) g2, Iff.trans (by omega) g3, Iff.trans (by omega) g4, Iff.trans (by omega) g5, Iff.trans (by omega) g6⟩

set_option maxHeartbeats 4000000 in
theorem print_right (x : Ins) (hr : right x = true) (k : Nat) : asm_Print.f (k + 1 + 1 + 1 + 1) x.op x.rd x.rs1 x.rs2 x.imm x.csr x.aq x.rl = some ⟨(textS x).toArray⟩ := by
  obtain ⟨hb, hrd, hrs1, hrs2, hcsr, himm⟩ := right_bounds x hr
  have hk : known x.op = true := by simp [known]; omega
  have ht := tests x.op hb.1 hb.2
  have hf := form_ok x.op hb.1 hb.2
  have e1 : inst_Right.f x.op x.rd x.rs1 x.rs2 x.imm x.csr x.aq x.rl = some 0 := by unfold inst_Right.f; rw [show right ⟨x.op, x.rd, x.rs1, x.rs2, x.imm, x.csr, x.aq, x.rl⟩ = true from hr]; rfl
  have e2 : inst_Name.f x.op = some ⟨(rowAt x.op).name.data.toList.toArray⟩ := by unfold inst_Name.f; rw [hk, if_pos rfl, ← name_eq]
  have e3 : ∀ n : Int, 0 ≤ n → n ≤ 31 → asm_Reg.f n = some ⟨(regS n).toArray⟩ := fun n h0 h1 => by unfold asm_Reg.f; rw [if_pos ⟨by omega, by omega⟩]
  have e4 : ∀ n : Int, -2147483648 ≤ n → n ≤ 2147483647 → word_Dec.f n = some ⟨(decS n).toArray⟩ := fun n h0 h1 => by unfold word_Dec.f; rw [if_pos ⟨by omega, by omega⟩]
  have hw : IntKind.u64.wrap x.csr = x.csr := by rw [IntKind.wrap_u64]; omega
  have e5 : word_Hex.f (IntKind.u64.wrap x.csr) = some ⟨(hexS x.csr.toNat).toArray⟩ := by unfold word_Hex.f; rw [hw, if_pos ⟨by omega, by omega⟩]
  have htd := tdiv_bd x.imm himm.1 himm.2
  have hw4 : wrap64 (x.imm.tdiv 4096) = x.imm.tdiv 4096 := by unfold wrap64; omega
  have e6 : word_Dec.f (wrap64 (x.imm.tdiv 4096)) = some ⟨(decS (x.imm.tdiv 4096)).toArray⟩ := by rw [hw4]; exact e4 _ (by omega) (by omega)
  have hn := name_len x.op hb.1 hb.2
  have hs := suf_len x.aq x.rl
  have n1 := reg_len x.rd; have n2 := reg_len x.rs1; have n3 := reg_len x.rs2; have n4 := dec_len x.imm; have n5 := dec_len (x.imm.tdiv 4096); have n6 := hex_len x.csr.toNat
  have hsuf : (¬ ((rowAt x.op).form = 14 ∨ (rowAt x.op).form = 15)) → sufS x.aq x.rl = [] := by
    intro hno
    have h := hr
    rw [right_eq] at h
    simp only [rright, rrightBy, partB, ordF, Bool.and_eq_true] at h
    obtain ⟨_, _, _, ⟨_, h2⟩, _⟩ := h
    simp only [List.any_cons, List.any_nil, Bool.or_false, Bool.or_eq_true, beq_iff_eq, Bool.and_eq_true, Bool.not_eq_true'] at h2
    rcases h2 with h2 | ⟨h2, h3⟩
    · exact absurd (by omega) hno
    · rw [h2, h3]; rfl
  unfold asm_Print.f textS
  rw [e1, Option.bind_some, if_pos rfl, e2, Option.bind_some, e3 _ hrd.1 hrd.2, Option.bind_some, e3 _ hrs1.1 hrs1.2, Option.bind_some, e3 _ hrs2.1 hrs2.2, Option.bind_some, e4 _ himm.1 himm.2, Option.bind_some, e5, Option.bind_some]
  generalize (rowAt x.op).name.data.toList = nm at *
  obtain ⟨g1, g2, g3, g4, g5, g6, g7, g8, g9, g10, g11, g12⟩ := ht
  unfold partsS
  generalize (rowAt x.op).form = f at *
  have z1 : (⟨(decS x.imm).toArray⟩ : ByteArray).size + 1 ≤ 9223372036854775807 := by rw [size_ba]; omega
  have z2 : ((⟨(decS x.imm).toArray⟩ : ByteArray) ++ ⟨#[40]⟩).size + (⟨(regS x.rs1).toArray⟩ : ByteArray).size ≤ 9223372036854775807 := by rw [app40 (decS x.imm), size_ba, size_ba, List.length_append]; simp; omega
  have z3 : (((⟨(decS x.imm).toArray⟩ : ByteArray) ++ ⟨#[40]⟩) ++ ⟨(regS x.rs1).toArray⟩).size + 1 ≤ 9223372036854775807 := by rw [app40 (decS x.imm), apps (decS x.imm ++ [40]) (regS x.rs1), size_ba, List.length_append, List.length_append]; simp; omega
  have a1 : (((⟨(decS x.imm).toArray⟩ : ByteArray) ++ ⟨#[40]⟩) ++ ⟨(regS x.rs1).toArray⟩) ++ ⟨#[41]⟩ = ⟨(decS x.imm ++ brS (regS x.rs1)).toArray⟩ := by rw [app40 (decS x.imm), apps (decS x.imm ++ [40]) (regS x.rs1), app41 (decS x.imm ++ [40] ++ regS x.rs1)]; simp [brS]
  have z4 : 1 + (⟨(regS x.rs1).toArray⟩ : ByteArray).size ≤ 9223372036854775807 := by rw [size_ba]; omega
  have z5 : ((⟨#[40]⟩ : ByteArray) ++ ⟨(regS x.rs1).toArray⟩).size + 1 ≤ 9223372036854775807 := by rw [pre40 (regS x.rs1), size_ba, List.length_append]; simp; omega
  have a2 : ((⟨#[40]⟩ : ByteArray) ++ ⟨(regS x.rs1).toArray⟩) ++ ⟨#[41]⟩ = ⟨(brS (regS x.rs1)).toArray⟩ := by rw [pre40 (regS x.rs1), app41 ([40] ++ regS x.rs1)]; simp [brS]
  have z6 : (⟨nm.toArray⟩ : ByteArray).size + (⟨(sufS x.aq x.rl).toArray⟩ : ByteArray).size ≤ 9223372036854775807 := by rw [size_ba, size_ba]; omega
  have l1 : (brS (regS x.rs1)).length ≤ 24 := by simp [brS]; omega
  have l2 : (decS x.imm ++ brS (regS x.rs1)).length ≤ 50 := by rw [List.length_append]; omega
  have l3 : (nm ++ sufS x.aq x.rl).length ≤ 30 := by rw [List.length_append]; omega
  have j1 := join2 nm (regS x.rd) (decS (x.imm.tdiv 4096)) (by omega) (by omega) (by omega)
  have j2 := join2 nm (regS x.rd) (decS x.imm) (by omega) (by omega) (by omega)
  have j3 := join2 nm (regS x.rd) (decS x.imm ++ brS (regS x.rs1)) (by omega) (by omega) (by omega)
  have j4 := join2 nm (regS x.rs2) (decS x.imm ++ brS (regS x.rs1)) (by omega) (by omega) (by omega)
  have j5 := join3 nm (regS x.rs1) (regS x.rs2) (decS x.imm) (by omega) (by omega) (by omega) (by omega)
  have j6 := join3 nm (regS x.rd) (hexS x.csr.toNat) (regS x.rs1) (by omega) (by omega) (by omega) (by omega)
  have j7 := join3 nm (regS x.rd) (hexS x.csr.toNat) (decS x.imm) (by omega) (by omega) (by omega) (by omega)
  have j8 := join2 (nm ++ sufS x.aq x.rl) (regS x.rd) (brS (regS x.rs1)) (by omega) (by omega) (by omega)
  have j9 := join3 (nm ++ sufS x.aq x.rl) (regS x.rd) (regS x.rs2) (brS (regS x.rs1)) (by omega) (by omega) (by omega) (by omega)
  have j10 := join2 nm (regS x.rs1) (regS x.rs2) (by omega) (by omega) (by omega)
  have j11 := join3 nm (regS x.rd) (regS x.rs1) (decS x.imm) (by omega) (by omega) (by omega) (by omega)
  have j12 := join3 nm (regS x.rd) (regS x.rs1) (regS x.rs2) (by omega) (by omega) (by omega) (by omega)
  clear hr hn hs n1 n2 n3 n4 n5 n6 l1 l2 l3 hk e1 e2 e3 e4 e5 hw htd hw4 hb hrd hrs1 hrs2 hcsr himm
  rcases hf with rfl | rfl | rfl | rfl | rfl | rfl | rfl | rfl | rfl | rfl | rfl | rfl | rfl | rfl | rfl | rfl
  all_goals
    simp at g1 g2 g3 g4 g5 g6 g7 g8 g9 g10 g11 g12 hsuf
  · rcases g7 with h | h <;> simp [h, asm_Print.j0, e6, j1, hsuf]
  · simp [g8, asm_Print.j0, j2, hsuf]
  · simp [g1, g2, g3, g4, g5, g6, g7, g8, g9, g10, g11, g12, asm_Print.j0, asm_Print.j1, asm_Print.j2, asm_Print.j3, inst_Loads.f, inst_Stores.f, inst_Branches.f, inst_Systems.f, inst_Atomics.f, asm_numbered.f, asm_suffix.f, hsuf, j11]
  · simp [g1, g2, g3, g4, g5, g6, g7, g8, g9, g10, g11, g12, asm_Print.j0, asm_Print.j1, asm_Print.j2, asm_Print.j3, inst_Loads.f, inst_Stores.f, inst_Branches.f, inst_Systems.f, inst_Atomics.f, asm_numbered.f, asm_suffix.f, hsuf, j5]
  · simp [g1, g2, g3, g4, g5, g6, g7, g8, g9, g10, g11, g12, asm_Print.j0, asm_Print.j1, asm_Print.j2, asm_Print.j3, inst_Loads.f, inst_Stores.f, inst_Branches.f, inst_Systems.f, inst_Atomics.f, asm_numbered.f, asm_suffix.f, hsuf, -ByteArray.size_append, z1, z2, z3, a1, j3]
  · simp [g1, g2, g3, g4, g5, g6, g7, g8, g9, g10, g11, g12, asm_Print.j0, asm_Print.j1, asm_Print.j2, asm_Print.j3, inst_Loads.f, inst_Stores.f, inst_Branches.f, inst_Systems.f, inst_Atomics.f, asm_numbered.f, asm_suffix.f, hsuf, -ByteArray.size_append, z1, z2, z3, a1, j4]
  · simp [g1, g2, g3, g4, g5, g6, g7, g8, g9, g10, g11, g12, asm_Print.j0, asm_Print.j1, asm_Print.j2, asm_Print.j3, inst_Loads.f, inst_Stores.f, inst_Branches.f, inst_Systems.f, inst_Atomics.f, asm_numbered.f, asm_suffix.f, hsuf, j11]
  · simp [g1, g2, g3, g4, g5, g6, g7, g8, g9, g10, g11, g12, asm_Print.j0, asm_Print.j1, asm_Print.j2, asm_Print.j3, inst_Loads.f, inst_Stores.f, inst_Branches.f, inst_Systems.f, inst_Atomics.f, asm_numbered.f, asm_suffix.f, hsuf, j11]
  · simp [g1, g2, g3, g4, g5, g6, g7, g8, g9, g10, g11, g12, asm_Print.j0, asm_Print.j1, asm_Print.j2, asm_Print.j3, inst_Loads.f, inst_Stores.f, inst_Branches.f, inst_Systems.f, inst_Atomics.f, asm_numbered.f, asm_suffix.f, hsuf, j12]
  · simp [g1, g2, g3, g4, g5, g6, g7, g8, g9, g10, g11, g12, asm_Print.j0, asm_Print.j1, asm_Print.j2, asm_Print.j3, inst_Loads.f, inst_Stores.f, inst_Branches.f, inst_Systems.f, inst_Atomics.f, asm_numbered.f, asm_suffix.f, hsuf, j11]
  · rcases g12 with h | h | h | h | h <;> simp [h, g1, g2, g3, g4, g5, g6, g7, g8, g9, g10, g11, asm_Print.j0, asm_Print.j1, asm_Print.j2, asm_Print.j3, inst_Loads.f, inst_Stores.f, inst_Branches.f, inst_Systems.f, inst_Atomics.f, asm_numbered.f, asm_suffix.f, hsuf] <;> simp_all
  · rcases g9 with h | h | h <;> simp [h, g1, g2, g3, g4, g5, g6, g7, g8, g10, g11, g12, asm_Print.j0, asm_Print.j1, asm_Print.j2, asm_Print.j3, inst_Loads.f, inst_Stores.f, inst_Branches.f, inst_Systems.f, inst_Atomics.f, asm_numbered.f, asm_suffix.f, hsuf, j6] <;> simp_all
  · simp [g1, g2, g3, g4, g5, g6, g7, g8, g9, g10, g11, g12, asm_Print.j0, asm_Print.j1, asm_Print.j2, asm_Print.j3, inst_Loads.f, inst_Stores.f, inst_Branches.f, inst_Systems.f, inst_Atomics.f, asm_numbered.f, asm_suffix.f, hsuf, j7]
  · rcases g10 with h | h <;> simp [h, g1, g2, g3, g4, g5, g6, g7, g8, g9, g11, g12, asm_Print.j0, asm_Print.j1, asm_Print.j2, asm_Print.j3, inst_Loads.f, inst_Stores.f, inst_Branches.f, inst_Systems.f, inst_Atomics.f, asm_numbered.f, asm_suffix.f, -ByteArray.size_append, z4, z5, z6, a2, apps nm (sufS x.aq x.rl), j8] <;> simp_all
  · simp [g1, g2, g3, g4, g5, g6, g7, g8, g9, g10, g11, g12, asm_Print.j0, asm_Print.j1, asm_Print.j2, asm_Print.j3, inst_Loads.f, inst_Stores.f, inst_Branches.f, inst_Systems.f, inst_Atomics.f, asm_numbered.f, asm_suffix.f, -ByteArray.size_append, z4, z5, z6, a2, apps nm (sufS x.aq x.rl), j9]
  · have h := g11
    simp [h, g1, g2, g3, g4, g5, g6, g7, g8, g9, g10, g12, asm_Print.j0, asm_Print.j1, asm_Print.j2, asm_Print.j3, inst_Loads.f, inst_Stores.f, inst_Branches.f, inst_Systems.f, inst_Atomics.f, asm_numbered.f, asm_suffix.f, hsuf, j10] <;> simp_all

end Go.Proofs.YteidojpklpfdeaaDoor
