-- Written by a program of this session (wip/tools/xprint.py) out of the translation, over contracts proved by hand. Lean checks it.
import Derived.Test.YteidojpklpfdeaaDoorQA0
import Derived.Test.YteidojpklpfdeaaDoorQA2
namespace Go.Proofs.YteidojpklpfdeaaDoorX.QA
open Go.RowKit Go.Proofs.YteidojpklpfdeaaDoorW.PrintWords Go.Proofs.YteidojpklpfdeaaDoorW.PrintLast Go.Proofs.YteidojpklpfdeaaDoorW.PrintMore
attribute [local go_sem] max2_int min2_int max_two min_two max_three min_three max_four min_four   -- for this text's walks alone
set_option linter.unusedVariables false
set_option linter.unusedSimpArgs false

/-! ### asm_Print: function 10 -/
mutual
def asm_Print.j0 : Nat → ByteArray → ByteArray → ByteArray → ByteArray → ByteArray → ByteArray → Bool → Int → Int → Int → Int → Int → Int → Bool → Bool → Option (ByteArray)
  | 0, _, _, _, _, _, _, _, _, _, _, _, _, _, _, _ => none
  | k + 1, x3, x4, x5, x6, x7, x8, x31, x103000, x103001, x103002, x103003, x103004, x103005, x103006, x103007 => if x31 = true then ((word_Dec.f (wrap64 (Int.tdiv x103004 4096))).bind fun t110 => ((asm_join.f x3 (([x4, t110] : List ByteArray))).bind fun t114 => (some t114))) else (if x103000 = 3 then ((asm_join.f x3 (([x4, x7] : List ByteArray))).bind fun t118 => (some t118)) else ((inst_Loads.f x103000).bind fun t119 => (if t119 = true then (if x7.size + 1 ≤ 9223372036854775807 then (if (x7 ++ (⟨#[40]⟩ : ByteArray)).size + x5.size ≤ 9223372036854775807 then (if ((x7 ++ (⟨#[40]⟩ : ByteArray)) ++ x5).size + 1 ≤ 9223372036854775807 then ((asm_join.f x3 (([x4, ((x7 ++ (⟨#[40]⟩ : ByteArray)) ++ x5) ++ (⟨#[41]⟩ : ByteArray)] : List ByteArray))).bind fun t123 => (some t123)) else (none)) else (none)) else (none)) else ((inst_Stores.f x103000).bind fun t124 => (if t124 = true then (if x7.size + 1 ≤ 9223372036854775807 then (if (x7 ++ (⟨#[40]⟩ : ByteArray)).size + x5.size ≤ 9223372036854775807 then (if ((x7 ++ (⟨#[40]⟩ : ByteArray)) ++ x5).size + 1 ≤ 9223372036854775807 then ((asm_join.f x3 (([x6, ((x7 ++ (⟨#[40]⟩ : ByteArray)) ++ x5) ++ (⟨#[41]⟩ : ByteArray)] : List ByteArray))).bind fun t128 => (some t128)) else (none)) else (none)) else (none)) else ((inst_Branches.f x103000).bind fun t129 => (if t129 = true then ((asm_join.f x3 (([x5, x6, x7] : List ByteArray))).bind fun t133 => (some t133)) else (if x103000 = 54 then (asm_Print.j1 k x3 x4 x5 x6 x7 x8 true x103000 x103001 x103002 x103003 x103004 x103005 x103006 x103007) else (if x103000 = 55 then (asm_Print.j1 k x3 x4 x5 x6 x7 x8 true x103000 x103001 x103002 x103003 x103004 x103005 x103006 x103007) else (asm_Print.j1 k x3 x4 x5 x6 x7 x8 (x103000 == 56) x103000 x103001 x103002 x103003 x103004 x103005 x103006 x103007))))))))))
def asm_Print.j1 : Nat → ByteArray → ByteArray → ByteArray → ByteArray → ByteArray → ByteArray → Bool → Int → Int → Int → Int → Int → Int → Bool → Bool → Option (ByteArray)
  | 0, _, _, _, _, _, _, _, _, _, _, _, _, _, _, _ => none
  | k + 1, x3, x4, x5, x6, x7, x8, x93, x103000, x103001, x103002, x103003, x103004, x103005, x103006, x103007 => if x93 = true then ((asm_join.f x3 (([x4, x8, x5] : List ByteArray))).bind fun t137 => (some t137)) else ((inst_Systems.f x103000).bind fun t138 => (if t138 = true then ((asm_join.f x3 (([x4, x8, x7] : List ByteArray))).bind fun t142 => (some t142)) else (if x103000 = 73 then (asm_Print.j2 k x3 x4 x5 x6 x7 true x103000 x103001 x103002 x103003 x103004 x103005 x103006 x103007) else (asm_Print.j2 k x3 x4 x5 x6 x7 (x103000 == 84) x103000 x103001 x103002 x103003 x103004 x103005 x103006 x103007))))
def asm_Print.j2 : Nat → ByteArray → ByteArray → ByteArray → ByteArray → ByteArray → Bool → Int → Int → Int → Int → Int → Int → Bool → Bool → Option (ByteArray)
  | 0, _, _, _, _, _, _, _, _, _, _, _, _, _, _ => none
  | k + 1, x3, x4, x5, x6, x7, x123, x103000, x103001, x103002, x103003, x103004, x103005, x103006, x103007 => if x123 = true then ((asm_suffix.f x103000 x103001 x103002 x103003 x103004 x103005 x103006 x103007).bind fun t143 => (if x3.size + t143.size ≤ 9223372036854775807 then (if 1 + x5.size ≤ 9223372036854775807 then (if ((⟨#[40]⟩ : ByteArray) ++ x5).size + 1 ≤ 9223372036854775807 then ((asm_join.f (x3 ++ t143) (([x4, ((⟨#[40]⟩ : ByteArray) ++ x5) ++ (⟨#[41]⟩ : ByteArray)] : List ByteArray))).bind fun t147 => (some t147)) else (none)) else (none)) else (none))) else ((inst_Atomics.f x103000).bind fun t148 => (if t148 = true then ((asm_suffix.f x103000 x103001 x103002 x103003 x103004 x103005 x103006 x103007).bind fun t149 => (if x3.size + t149.size ≤ 9223372036854775807 then (if 1 + x5.size ≤ 9223372036854775807 then (if ((⟨#[40]⟩ : ByteArray) ++ x5).size + 1 ≤ 9223372036854775807 then ((asm_join.f (x3 ++ t149) (([x4, x6, ((⟨#[40]⟩ : ByteArray) ++ x5) ++ (⟨#[41]⟩ : ByteArray)] : List ByteArray))).bind fun t153 => (some t153)) else (none)) else (none)) else (none))) else (if x103000 = 98 then ((asm_join.f x3 (([x5, x6] : List ByteArray))).bind fun t157 => (some t157)) else (if x103000 = 52 then (asm_Print.j3 k x3 x4 x5 x6 x7 true x103000 x103001 x103002 x103003 x103004 x103005 x103006 x103007) else (if x103000 = 53 then (asm_Print.j3 k x3 x4 x5 x6 x7 true x103000 x103001 x103002 x103003 x103004 x103005 x103006 x103007) else (if x103000 = 95 then (asm_Print.j3 k x3 x4 x5 x6 x7 true x103000 x103001 x103002 x103003 x103004 x103005 x103006 x103007) else (if x103000 = 96 then (asm_Print.j3 k x3 x4 x5 x6 x7 true x103000 x103001 x103002 x103003 x103004 x103005 x103006 x103007) else (asm_Print.j3 k x3 x4 x5 x6 x7 (x103000 == 97) x103000 x103001 x103002 x103003 x103004 x103005 x103006 x103007))))))))
def asm_Print.j3 : Nat → ByteArray → ByteArray → ByteArray → ByteArray → ByteArray → Bool → Int → Int → Int → Int → Int → Int → Bool → Bool → Option (ByteArray)
  | 0, _, _, _, _, _, _, _, _, _, _, _, _, _, _ => none
  | k + 1, x3, x4, x5, x6, x7, x166, x103000, x103001, x103002, x103003, x103004, x103005, x103006, x103007 => if x166 = true then (some x3) else ((asm_numbered.f x103000).bind fun t158 => (if t158 = true then ((asm_join.f x3 (([x4, x5, x7] : List ByteArray))).bind fun t162 => (some t162)) else ((asm_join.f x3 (([x4, x5, x6] : List ByteArray))).bind fun t166 => (some t166))))
end
def asm_Print.f (k : Nat) (a0_0 : Int) (a0_1 : Int) (a0_2 : Int) (a0_3 : Int) (a0_4 : Int) (a0_5 : Int) (a0_6 : Bool) (a0_7 : Bool) : Option (ByteArray) := (inst_Right.f a0_0 a0_1 a0_2 a0_3 a0_4 a0_5 a0_6 a0_7).bind fun t103 => (if t103 = 0 then ((inst_Name.f a0_0).bind fun t104 => ((asm_Reg.f a0_1).bind fun t105 => ((asm_Reg.f a0_2).bind fun t106 => ((asm_Reg.f a0_3).bind fun t107 => ((word_Dec.f a0_4).bind fun t108 => ((word_Hex.f (IntKind.u64.wrap (a0_5))).bind fun t109 => (if a0_0 = 1 then (asm_Print.j0 k t104 t105 t106 t107 t108 t109 true a0_0 a0_1 a0_2 a0_3 a0_4 a0_5 a0_6 a0_7) else (asm_Print.j0 k t104 t105 t106 t107 t108 t109 (a0_0 == 2) a0_0 a0_1 a0_2 a0_3 a0_4 a0_5 a0_6 a0_7)))))))) else (some (⟨#[]⟩ : ByteArray)))
theorem asm_Print.mono_l : ∀ k, (∀ y0 y1 y2 y3 y4 y5 y6 y7 y8 y9 y10 y11 y12 y13 y14, LeO (asm_Print.j0 k y0 y1 y2 y3 y4 y5 y6 y7 y8 y9 y10 y11 y12 y13 y14) (asm_Print.j0 (k + 1) y0 y1 y2 y3 y4 y5 y6 y7 y8 y9 y10 y11 y12 y13 y14)) ∧ (∀ y0 y1 y2 y3 y4 y5 y6 y7 y8 y9 y10 y11 y12 y13 y14, LeO (asm_Print.j1 k y0 y1 y2 y3 y4 y5 y6 y7 y8 y9 y10 y11 y12 y13 y14) (asm_Print.j1 (k + 1) y0 y1 y2 y3 y4 y5 y6 y7 y8 y9 y10 y11 y12 y13 y14)) ∧ (∀ y0 y1 y2 y3 y4 y5 y6 y7 y8 y9 y10 y11 y12 y13, LeO (asm_Print.j2 k y0 y1 y2 y3 y4 y5 y6 y7 y8 y9 y10 y11 y12 y13) (asm_Print.j2 (k + 1) y0 y1 y2 y3 y4 y5 y6 y7 y8 y9 y10 y11 y12 y13)) ∧ (∀ y0 y1 y2 y3 y4 y5 y6 y7 y8 y9 y10 y11 y12 y13, LeO (asm_Print.j3 k y0 y1 y2 y3 y4 y5 y6 y7 y8 y9 y10 y11 y12 y13) (asm_Print.j3 (k + 1) y0 y1 y2 y3 y4 y5 y6 y7 y8 y9 y10 y11 y12 y13))
  | 0 => ⟨fun _ _ _ _ _ _ _ _ _ _ _ _ _ _ _ r h => by simp [asm_Print.j0] at h, fun _ _ _ _ _ _ _ _ _ _ _ _ _ _ _ r h => by simp [asm_Print.j1] at h, fun _ _ _ _ _ _ _ _ _ _ _ _ _ _ r h => by simp [asm_Print.j2] at h, fun _ _ _ _ _ _ _ _ _ _ _ _ _ _ r h => by simp [asm_Print.j3] at h⟩
  | k + 1 => by
    obtain ⟨ih0, ih1, ih2, ih3⟩ := asm_Print.mono_l k
    refine ⟨?_, ?_, ?_, ?_⟩
    · intro y0 y1 y2 y3 y4 y5 y6 y7 y8 y9 y10 y11 y12 y13 y14
      unfold asm_Print.j0
      repeat' first
      | (with_reducible exact ih0 _ _ _ _ _ _ _ _ _ _ _ _ _ _ _)
      | (with_reducible exact ih1 _ _ _ _ _ _ _ _ _ _ _ _ _ _ _)
      | (with_reducible exact ih2 _ _ _ _ _ _ _ _ _ _ _ _ _ _)
      | (with_reducible exact ih3 _ _ _ _ _ _ _ _ _ _ _ _ _ _)
      | (with_reducible exact LeO.refl _)
      | (with_reducible exact LeO.none _)
      | (with_reducible refine LeO.ite ?_ ?_)
      | (with_reducible refine LeO.bind ?_ (fun _ => ?_))
      | exact ih0 _ _ _ _ _ _ _ _ _ _ _ _ _ _ _
      | exact ih1 _ _ _ _ _ _ _ _ _ _ _ _ _ _ _
      | exact ih2 _ _ _ _ _ _ _ _ _ _ _ _ _ _
      | exact ih3 _ _ _ _ _ _ _ _ _ _ _ _ _ _
      | exact LeO.none _
      | refine LeO.ite ?_ ?_
      | refine LeO.bind ?_ (fun _ => ?_)
    · intro y0 y1 y2 y3 y4 y5 y6 y7 y8 y9 y10 y11 y12 y13 y14
      unfold asm_Print.j1
      repeat' first
      | (with_reducible exact ih0 _ _ _ _ _ _ _ _ _ _ _ _ _ _ _)
      | (with_reducible exact ih1 _ _ _ _ _ _ _ _ _ _ _ _ _ _ _)
      | (with_reducible exact ih2 _ _ _ _ _ _ _ _ _ _ _ _ _ _)
      | (with_reducible exact ih3 _ _ _ _ _ _ _ _ _ _ _ _ _ _)
      | (with_reducible exact LeO.refl _)
      | (with_reducible exact LeO.none _)
      | (with_reducible refine LeO.ite ?_ ?_)
      | (with_reducible refine LeO.bind ?_ (fun _ => ?_))
      | exact ih0 _ _ _ _ _ _ _ _ _ _ _ _ _ _ _
      | exact ih1 _ _ _ _ _ _ _ _ _ _ _ _ _ _ _
      | exact ih2 _ _ _ _ _ _ _ _ _ _ _ _ _ _
      | exact ih3 _ _ _ _ _ _ _ _ _ _ _ _ _ _
      | exact LeO.none _
      | refine LeO.ite ?_ ?_
      | refine LeO.bind ?_ (fun _ => ?_)
    · intro y0 y1 y2 y3 y4 y5 y6 y7 y8 y9 y10 y11 y12 y13
      unfold asm_Print.j2
      repeat' first
      | (with_reducible exact ih0 _ _ _ _ _ _ _ _ _ _ _ _ _ _ _)
      | (with_reducible exact ih1 _ _ _ _ _ _ _ _ _ _ _ _ _ _ _)
      | (with_reducible exact ih2 _ _ _ _ _ _ _ _ _ _ _ _ _ _)
      | (with_reducible exact ih3 _ _ _ _ _ _ _ _ _ _ _ _ _ _)
      | (with_reducible exact LeO.refl _)
      | (with_reducible exact LeO.none _)
      | (with_reducible refine LeO.ite ?_ ?_)
      | (with_reducible refine LeO.bind ?_ (fun _ => ?_))
      | exact ih0 _ _ _ _ _ _ _ _ _ _ _ _ _ _ _
      | exact ih1 _ _ _ _ _ _ _ _ _ _ _ _ _ _ _
      | exact ih2 _ _ _ _ _ _ _ _ _ _ _ _ _ _
      | exact ih3 _ _ _ _ _ _ _ _ _ _ _ _ _ _
      | exact LeO.none _
      | refine LeO.ite ?_ ?_
      | refine LeO.bind ?_ (fun _ => ?_)
    · intro y0 y1 y2 y3 y4 y5 y6 y7 y8 y9 y10 y11 y12 y13
      unfold asm_Print.j3
      repeat' first
      | (with_reducible exact ih0 _ _ _ _ _ _ _ _ _ _ _ _ _ _ _)
      | (with_reducible exact ih1 _ _ _ _ _ _ _ _ _ _ _ _ _ _ _)
      | (with_reducible exact ih2 _ _ _ _ _ _ _ _ _ _ _ _ _ _)
      | (with_reducible exact ih3 _ _ _ _ _ _ _ _ _ _ _ _ _ _)
      | (with_reducible exact LeO.refl _)
      | (with_reducible exact LeO.none _)
      | (with_reducible refine LeO.ite ?_ ?_)
      | (with_reducible refine LeO.bind ?_ (fun _ => ?_))
      | exact ih0 _ _ _ _ _ _ _ _ _ _ _ _ _ _ _
      | exact ih1 _ _ _ _ _ _ _ _ _ _ _ _ _ _ _
      | exact ih2 _ _ _ _ _ _ _ _ _ _ _ _ _ _
      | exact ih3 _ _ _ _ _ _ _ _ _ _ _ _ _ _
      | exact LeO.none _
      | refine LeO.ite ?_ ?_
      | refine LeO.bind ?_ (fun _ => ?_)
theorem asm_Print.mono : ∀ a0 a1 a2 a3 a4 a5 a6 a7 k, LeO (asm_Print.f k a0 a1 a2 a3 a4 a5 a6 a7) (asm_Print.f (k + 1) a0 a1 a2 a3 a4 a5 a6 a7) := by
  intro a0 a1 a2 a3 a4 a5 a6 a7 k
  obtain ⟨ih0, ih1, ih2, ih3⟩ := asm_Print.mono_l k
  unfold asm_Print.f
  repeat' first
      | (with_reducible exact ih0 _ _ _ _ _ _ _ _ _ _ _ _ _ _ _)
      | (with_reducible exact ih1 _ _ _ _ _ _ _ _ _ _ _ _ _ _ _)
      | (with_reducible exact ih2 _ _ _ _ _ _ _ _ _ _ _ _ _ _)
      | (with_reducible exact ih3 _ _ _ _ _ _ _ _ _ _ _ _ _ _)
      | (with_reducible exact LeO.refl _)
      | (with_reducible exact LeO.none _)
      | (with_reducible refine LeO.ite ?_ ?_)
      | (with_reducible refine LeO.bind ?_ (fun _ => ?_))
      | exact ih0 _ _ _ _ _ _ _ _ _ _ _ _ _ _ _
      | exact ih1 _ _ _ _ _ _ _ _ _ _ _ _ _ _ _
      | exact ih2 _ _ _ _ _ _ _ _ _ _ _ _ _ _
      | exact ih3 _ _ _ _ _ _ _ _ _ _ _ _ _ _
      | exact LeO.none _
      | refine LeO.ite ?_ ?_
      | refine LeO.bind ?_ (fun _ => ?_)
def asm_Print.T3 : Bool × List (List Nat × List Nat) := (true, [([], []), ([0], [0]), ([1], [1]), ([], []), ([3], [3]), ([4, 2], [4]), ([], []), ([6], [6]), ([7, 5], [7]), ([], []), ([9], [9]), ([10, 8], [10]), ([], []), ([12], [12]), ([13, 11], [13]), ([2, 14, 0, 1, 2], [2]), ([5, 15, 0, 1, 2, 3, 4, 5, 15], [5]), ([8, 16, 0, 1, 2, 3, 4, 5, 6, 7, 8, 15, 16], [8]), ([11, 17, 0, 1, 2, 3, 4, 5, 6, 7, 8, 9, 10, 11, 15, 16, 17], [11]), ([14, 18, 0, 1, 2, 3, 4, 5, 6, 7, 8, 9, 10, 11, 12, 13, 14, 15, 16, 17, 18], [14])])
def asm_Print.B3 : List Nat := [0, 1, 3, 0, 8, 31, 0, 64, 255, 0, 512, 2047, 0, 4096, 16383, 32767, 65535, 131071, 262143, 524287]
theorem asm_Print.tab3 : rtab .any (opsOf Tryd.f10 3) = asm_Print.T3 := by kernel_rfl
theorem asm_Print.bits3 : waitsOk asm_Print.T3.2 asm_Print.B3 = true := by kernel_rfl
set_option maxHeartbeats 8000000 in
set_option maxRecDepth 100000 in
theorem asm_Print.calls (k : Nat) (a0_0 : Int) (a0_1 : Int) (a0_2 : Int) (a0_3 : Int) (a0_4 : Int) (a0_5 : Int) (a0_6 : Bool) (a0_7 : Bool) (r : ByteArray) (w : World) (h : asm_Print.f k a0_0 a0_1 a0_2 a0_3 a0_4 a0_5 a0_6 a0_7 = some r) :
    Calls Tryd.prog 10 #[.agg #[.int .i64 a0_0, .int .i64 a0_1, .int .i64 a0_2, .int .i64 a0_3, .int .i64 a0_4, .int .i64 a0_5, .bool a0_6, .bool a0_7]] w fun e w' => e = .returned (.string r) ∧ Below w.heap.size w w' := by
  have hu24 := Tryd.underlying24
  have HB := Aside0.mk (Below.refl w.heap.size w)
  have H : ((inst_Right.f a0_0 a0_1 a0_2 a0_3 a0_4 a0_5 a0_6 a0_7).bind fun t103 => (if t103 = 0 then ((inst_Name.f a0_0).bind fun t104 => ((asm_Reg.f a0_1).bind fun t105 => ((asm_Reg.f a0_2).bind fun t106 => ((asm_Reg.f a0_3).bind fun t107 => ((word_Dec.f a0_4).bind fun t108 => ((word_Hex.f (IntKind.u64.wrap (a0_5))).bind fun t109 => (if a0_0 = 1 then (asm_Print.j0 k t104 t105 t106 t107 t108 t109 true a0_0 a0_1 a0_2 a0_3 a0_4 a0_5 a0_6 a0_7) else (asm_Print.j0 k t104 t105 t106 t107 t108 t109 (a0_0 == 2) a0_0 a0_1 a0_2 a0_3 a0_4 a0_5 a0_6 a0_7)))))))) else (some (⟨#[]⟩ : ByteArray)))) = some r := h
  clear h
  replace H := Option.bind_eq_some_iff.mp H
  obtain ⟨t103, A20, H⟩ := H
  replace H : (if t103 = 0 then ((inst_Name.f a0_0).bind fun t104 => ((asm_Reg.f a0_1).bind fun t105 => ((asm_Reg.f a0_2).bind fun t106 => ((asm_Reg.f a0_3).bind fun t107 => ((word_Dec.f a0_4).bind fun t108 => ((word_Hex.f (IntKind.u64.wrap (a0_5))).bind fun t109 => (if a0_0 = 1 then (asm_Print.j0 k t104 t105 t106 t107 t108 t109 true a0_0 a0_1 a0_2 a0_3 a0_4 a0_5 a0_6 a0_7) else (asm_Print.j0 k t104 t105 t106 t107 t108 t109 (a0_0 == 2) a0_0 a0_1 a0_2 a0_3 a0_4 a0_5 a0_6 a0_7)))))))) else (some (⟨#[]⟩ : ByteArray))) = some r := H
  have A2 := Aside0.mk A20
  clear A20
  by_cases c3 : t103 = 0
  · as_aux_lemma =>
    rw [if_pos c3] at H
    have c3b0 : (t103 == 0) = true := beq_iff_eq.mpr c3
    have c3b1 : (t103 != 0) = false := bne_eq_false_iff_eq.mpr c3
    clear c3
    replace H := Option.bind_eq_some_iff.mp H
    obtain ⟨t104, A40, H⟩ := H
    replace H : ((asm_Reg.f a0_1).bind fun t105 => ((asm_Reg.f a0_2).bind fun t106 => ((asm_Reg.f a0_3).bind fun t107 => ((word_Dec.f a0_4).bind fun t108 => ((word_Hex.f (IntKind.u64.wrap (a0_5))).bind fun t109 => (if a0_0 = 1 then (asm_Print.j0 k t104 t105 t106 t107 t108 t109 true a0_0 a0_1 a0_2 a0_3 a0_4 a0_5 a0_6 a0_7) else (asm_Print.j0 k t104 t105 t106 t107 t108 t109 (a0_0 == 2) a0_0 a0_1 a0_2 a0_3 a0_4 a0_5 a0_6 a0_7))))))) = some r := H
    have A4 := Aside0.mk A40
    clear A40
    replace H := Option.bind_eq_some_iff.mp H
    obtain ⟨t105, A50, H⟩ := H
    replace H : ((asm_Reg.f a0_2).bind fun t106 => ((asm_Reg.f a0_3).bind fun t107 => ((word_Dec.f a0_4).bind fun t108 => ((word_Hex.f (IntKind.u64.wrap (a0_5))).bind fun t109 => (if a0_0 = 1 then (asm_Print.j0 k t104 t105 t106 t107 t108 t109 true a0_0 a0_1 a0_2 a0_3 a0_4 a0_5 a0_6 a0_7) else (asm_Print.j0 k t104 t105 t106 t107 t108 t109 (a0_0 == 2) a0_0 a0_1 a0_2 a0_3 a0_4 a0_5 a0_6 a0_7)))))) = some r := H
    have A5 := Aside0.mk A50
    clear A50
    replace H := Option.bind_eq_some_iff.mp H
    obtain ⟨t106, A60, H⟩ := H
    replace H : ((asm_Reg.f a0_3).bind fun t107 => ((word_Dec.f a0_4).bind fun t108 => ((word_Hex.f (IntKind.u64.wrap (a0_5))).bind fun t109 => (if a0_0 = 1 then (asm_Print.j0 k t104 t105 t106 t107 t108 t109 true a0_0 a0_1 a0_2 a0_3 a0_4 a0_5 a0_6 a0_7) else (asm_Print.j0 k t104 t105 t106 t107 t108 t109 (a0_0 == 2) a0_0 a0_1 a0_2 a0_3 a0_4 a0_5 a0_6 a0_7))))) = some r := H
    have A6 := Aside0.mk A60
    clear A60
    replace H := Option.bind_eq_some_iff.mp H
    obtain ⟨t107, A70, H⟩ := H
    replace H : ((word_Dec.f a0_4).bind fun t108 => ((word_Hex.f (IntKind.u64.wrap (a0_5))).bind fun t109 => (if a0_0 = 1 then (asm_Print.j0 k t104 t105 t106 t107 t108 t109 true a0_0 a0_1 a0_2 a0_3 a0_4 a0_5 a0_6 a0_7) else (asm_Print.j0 k t104 t105 t106 t107 t108 t109 (a0_0 == 2) a0_0 a0_1 a0_2 a0_3 a0_4 a0_5 a0_6 a0_7)))) = some r := H
    have A7 := Aside0.mk A70
    clear A70
    replace H := Option.bind_eq_some_iff.mp H
    obtain ⟨t108, A80, H⟩ := H
    replace H : ((word_Hex.f (IntKind.u64.wrap (a0_5))).bind fun t109 => (if a0_0 = 1 then (asm_Print.j0 k t104 t105 t106 t107 t108 t109 true a0_0 a0_1 a0_2 a0_3 a0_4 a0_5 a0_6 a0_7) else (asm_Print.j0 k t104 t105 t106 t107 t108 t109 (a0_0 == 2) a0_0 a0_1 a0_2 a0_3 a0_4 a0_5 a0_6 a0_7))) = some r := H
    have A8 := Aside0.mk A80
    clear A80
    replace H := Option.bind_eq_some_iff.mp H
    obtain ⟨t109, A90, H⟩ := H
    replace H : (if a0_0 = 1 then (asm_Print.j0 k t104 t105 t106 t107 t108 t109 true a0_0 a0_1 a0_2 a0_3 a0_4 a0_5 a0_6 a0_7) else (asm_Print.j0 k t104 t105 t106 t107 t108 t109 (a0_0 == 2) a0_0 a0_1 a0_2 a0_3 a0_4 a0_5 a0_6 a0_7)) = some r := H
    have A9 := Aside0.mk A90
    clear A90
    have HC10 := Aside0.mk H
    clear H
    go_enter Tryd.func10, Tryd.ntmps10
    try go_wp2_with (first | ((with_reducible refine gate_dst (N := 1) rfl ?_); refine box_event ?hg (N := 1) ?hd (cs := #[.int .i64 a0_0, .int .i64 a0_1, .int .i64 a0_2, .int .i64 a0_3, .int .i64 a0_4, .int .i64 a0_5, .bool a0_6, .bool a0_7]) (t := 24) ?hr ?_; (case hd => rfl); (case hg => rfl); (case hr => first | (go_simp; done) | (go_simp; rfl)); intro gb102 hg w11 hbox hb; have n0_ := Aside0.mk (below_step (by repeat (first | (with_reducible first | exact HB.out | apply below_alloc | apply pw_below_drewN | apply below_drew1) | exact HB.out)) hb); have n1_ := Aside0.mk (hbox); have n2_ := Aside0.mk ((by rw [hg]; exact (below_size (by repeat (first | (with_reducible first | exact HB.out | apply below_alloc | apply pw_below_drewN | apply below_drew1) | exact HB.out))) : w.heap.size ≤ gb102)); have n3_ := Aside0.mk ((by rw [hg]; exact (below_size (by repeat (first | (with_reducible first | exact HB.out | apply below_alloc | apply pw_below_drewN | apply below_drew1) | exact HB.out))) : w.heap.size ≤ gb102)); clear HB; have HB := n0_; have BK102 := n1_; have GW102 := n2_; have GE102 := n3_; clear n0_ n1_ n2_ n3_; clear hb hbox hg; have hcz12_0 : w11.cell? ⟨gb102, 0, none⟩ = some (.int .i64 a0_0) := (blk_cell BK102.out 0).trans rfl; have hcz12_1 : w11.cell? ⟨gb102, 1, none⟩ = some (.int .i64 a0_1) := (blk_cell BK102.out 1).trans rfl; have hcz12_2 : w11.cell? ⟨gb102, 2, none⟩ = some (.int .i64 a0_2) := (blk_cell BK102.out 2).trans rfl; have hcz12_3 : w11.cell? ⟨gb102, 3, none⟩ = some (.int .i64 a0_3) := (blk_cell BK102.out 3).trans rfl; have hcz12_4 : w11.cell? ⟨gb102, 4, none⟩ = some (.int .i64 a0_4) := (blk_cell BK102.out 4).trans rfl; have hcz12_5 : w11.cell? ⟨gb102, 5, none⟩ = some (.int .i64 a0_5) := (blk_cell BK102.out 5).trans rfl; have hcz12_6 : w11.cell? ⟨gb102, 6, none⟩ = some (.bool a0_6) := (blk_cell BK102.out 6).trans rfl; have hcz12_7 : w11.cell? ⟨gb102, 7, none⟩ = some (.bool a0_7) := (blk_cell BK102.out 7).trans rfl; have hfz12_0 := blk_frozen BK102.out 0; have hfz12_1 := blk_frozen BK102.out 1; have hfz12_2 := blk_frozen BK102.out 2; have hfz12_3 := blk_frozen BK102.out 3; have hfz12_4 := blk_frozen BK102.out 4; have hfz12_5 := blk_frozen BK102.out 5; have hfz12_6 := blk_frozen BK102.out 6; have hfz12_7 := blk_frozen BK102.out 7) | ((with_reducible refine gate_callee (f := 11) rfl ?_); refine goesL_ (some 10) rfl rfl Tryd.func11 (by kernel_rfl) rfl #[.agg #[.int .i64 a0_0, .int .i64 a0_1, .int .i64 a0_2, .int .i64 a0_3, .int .i64 a0_4, .int .i64 a0_5, .bool a0_6, .bool a0_7]] rfl (by (try simp only [List.map_toArray, List.map_cons, List.map_nil]); first | done | rfl | (simp only [List.length_drop, List.length_take]; rfl)) ?_; (with_reducible refine (inst_Right.calls a0_0 a0_1 a0_2 a0_3 a0_4 a0_5 a0_6 a0_7 t103 _ A2.out).mono ?_); rintro e w13 ⟨rfl, hb⟩; refine ⟨_, rfl, ?_⟩; have n0_ := Aside0.mk (blk_below (g := gb102) (o := .cells #[.int .i64 a0_0, .int .i64 a0_1, .int .i64 a0_2, .int .i64 a0_3, .int .i64 a0_4, .int .i64 a0_5, .bool a0_6, .bool a0_7] 24 (0, 0)) (by (with_reducible repeat (first | refine blk_drewN ?_ _ | refine blk_drew ?_ | refine blk_alloc ?_ _)); exact BK102.out) hb); have n1_ := Aside0.mk (below_step (by repeat (first | (with_reducible first | exact HB.out | apply below_alloc | apply pw_below_drewN | apply below_drew1 | refine below_set ?_ GE102.out) | exact HB.out)) hb); clear BK102; clear HB; have BK102 := n0_; have HB := n1_; clear n0_ n1_; (try clear hb); (try clear hb2); (try clear hk); (try clear hi)))
    have n0_ := Aside0.mk (blk_drew BK102.out)
    have n1_ := Aside0.mk (below_drew1 HB.out)
    clear BK102
    clear HB
    have BK102 := n0_
    have HB := n1_
    clear n0_ n1_
    refine start_ (n := 20) (S := fun w' => w'.cell? ⟨gb102, 0, none⟩ = some (.int .i64 a0_0) ∧ w'.cell? ⟨gb102, 1, none⟩ = some (.int .i64 a0_1) ∧ w'.cell? ⟨gb102, 2, none⟩ = some (.int .i64 a0_2) ∧ w'.cell? ⟨gb102, 3, none⟩ = some (.int .i64 a0_3) ∧ w'.cell? ⟨gb102, 4, none⟩ = some (.int .i64 a0_4) ∧ w'.cell? ⟨gb102, 5, none⟩ = some (.int .i64 a0_5) ∧ w'.cell? ⟨gb102, 6, none⟩ = some (.bool a0_6) ∧ w'.cell? ⟨gb102, 7, none⟩ = some (.bool a0_7)) (ds := []) #[false, false, false, false, false, false, false, false, false, false, false, false, false, false, false, false, false, false, false, false] (by kernel_rfl) rfl rfl ⟨(blk_cell BK102.out 0).trans rfl, (blk_cell BK102.out 1).trans rfl, (blk_cell BK102.out 2).trans rfl, (blk_cell BK102.out 3).trans rfl, (blk_cell BK102.out 4).trans rfl, (blk_cell BK102.out 5).trans rfl, (blk_cell BK102.out 6).trans rfl, (blk_cell BK102.out 7).trans rfl⟩ (fun hHeld => ?_); refine with_tabW asm_Print.tab3 asm_Print.bits3 (fun HT_ HW_ => ?_)
    generalize w13.drew = w14 at BK102 HB hHeld ⊢
    refine pure_ (i := 0) (N := some 12) (v := ?_) (a' := ?_) #[true, false, false, false, false, false, false, false, false, false, false, false, false, false, false, false, false, false, false, false] rfl rfl (any_of HT_.out (by kernel_rfl)) (fun _ _ _ h => h) (Or.inl ⟨by rfl, ?_⟩) ?_ ?_
    rotate_left
    · intro w'
      go_simp
      with_reducible rfl
    rotate_left
    · simp only [Act.put, List.setIfInBounds_toArray, List.set_cons_zero, List.set_cons_succ, i64_w, i32_w]
      rfl
    refine pure_ (i := 3) (N := some 15) (v := ?_) (a' := ?_) #[true, false, false, true, false, false, false, false, false, false, false, false, false, false, false, false, false, false, false, false] rfl rfl (any_of HT_.out (by kernel_rfl)) (fun _ _ _ h => h) (Or.inl ⟨by rfl, ?_⟩) ?_ ?_
    rotate_left
    · intro w'
      go_simp
      with_reducible rfl
    rotate_left
    · simp only [Act.put, List.setIfInBounds_toArray, List.set_cons_zero, List.set_cons_succ, i64_w, i32_w]
      rfl
    refine pure_ (i := 6) (N := some 18) (v := ?_) (a' := ?_) #[true, false, false, true, false, false, true, false, false, false, false, false, false, false, false, false, false, false, false, false] rfl rfl (any_of HT_.out (by kernel_rfl)) (fun _ _ _ h => h) (Or.inl ⟨by rfl, ?_⟩) ?_ ?_
    rotate_left
    · intro w'
      go_simp
      with_reducible rfl
    rotate_left
    · simp only [Act.put, List.setIfInBounds_toArray, List.set_cons_zero, List.set_cons_succ, i64_w, i32_w]
      rfl
    refine pure_ (i := 9) (N := some 21) (v := ?_) (a' := ?_) #[true, false, false, true, false, false, true, false, false, true, false, false, false, false, false, false, false, false, false, false] rfl rfl (any_of HT_.out (by kernel_rfl)) (fun _ _ _ h => h) (Or.inl ⟨by rfl, ?_⟩) ?_ ?_
    rotate_left
    · intro w'
      go_simp
      with_reducible rfl
    rotate_left
    · simp only [Act.put, List.setIfInBounds_toArray, List.set_cons_zero, List.set_cons_succ, i64_w, i32_w]
      rfl
    refine pure_ (i := 12) (N := some 24) (v := ?_) (a' := ?_) #[true, false, false, true, false, false, true, false, false, true, false, false, true, false, false, false, false, false, false, false] rfl rfl (any_of HT_.out (by kernel_rfl)) (fun _ _ _ h => h) (Or.inl ⟨by rfl, ?_⟩) ?_ ?_
    rotate_left
    · intro w'
      go_simp
      with_reducible rfl
    rotate_left
    · simp only [Act.put, List.setIfInBounds_toArray, List.set_cons_zero, List.set_cons_succ, i64_w, i32_w]
      rfl
    refine take_ (i := 1) (N := some 13) (v := ?_) (a' := ?_) #[true, true, false, true, false, false, true, false, false, true, false, false, true, false, false, false, false, false, false, false] rfl rfl (take_ofW HT_.out HW_.out (by kernel_rfl)) (fun _ _ _ h => h) (Or.inl ⟨by rfl, ?_⟩) hHeld ?_ ?_
    rotate_left
    · rintro w' ⟨s0, s1, s2, s3, s4, s5, s6, s7⟩
      go_simp
      with_reducible rfl
    rotate_left
    · simp only [Act.put, List.setIfInBounds_toArray, List.set_cons_zero, List.set_cons_succ, i64_w, i32_w]
      rfl
    refine take_ (i := 4) (N := some 16) (v := ?_) (a' := ?_) #[true, true, false, true, true, false, true, false, false, true, false, false, true, false, false, false, false, false, false, false] rfl rfl (take_ofW HT_.out HW_.out (by kernel_rfl)) (fun _ _ _ h => h) (Or.inl ⟨by rfl, ?_⟩) hHeld ?_ ?_
    rotate_left
    · rintro w' ⟨s0, s1, s2, s3, s4, s5, s6, s7⟩
      go_simp
      with_reducible rfl
    rotate_left
    · simp only [Act.put, List.setIfInBounds_toArray, List.set_cons_zero, List.set_cons_succ, i64_w, i32_w]
      rfl
    refine take_ (i := 7) (N := some 19) (v := ?_) (a' := ?_) #[true, true, false, true, true, false, true, true, false, true, false, false, true, false, false, false, false, false, false, false] rfl rfl (take_ofW HT_.out HW_.out (by kernel_rfl)) (fun _ _ _ h => h) (Or.inl ⟨by rfl, ?_⟩) hHeld ?_ ?_
    rotate_left
    · rintro w' ⟨s0, s1, s2, s3, s4, s5, s6, s7⟩
      go_simp
      with_reducible rfl
    rotate_left
    · simp only [Act.put, List.setIfInBounds_toArray, List.set_cons_zero, List.set_cons_succ, i64_w, i32_w]
      rfl
    refine take_ (i := 10) (N := some 22) (v := ?_) (a' := ?_) #[true, true, false, true, true, false, true, true, false, true, true, false, true, false, false, false, false, false, false, false] rfl rfl (take_ofW HT_.out HW_.out (by kernel_rfl)) (fun _ _ _ h => h) (Or.inl ⟨by rfl, ?_⟩) hHeld ?_ ?_
    rotate_left
    · rintro w' ⟨s0, s1, s2, s3, s4, s5, s6, s7⟩
      go_simp
      with_reducible rfl
    rotate_left
    · simp only [Act.put, List.setIfInBounds_toArray, List.set_cons_zero, List.set_cons_succ, i64_w, i32_w]
      rfl
    refine take_ (i := 13) (N := some 25) (v := ?_) (a' := ?_) #[true, true, false, true, true, false, true, true, false, true, true, false, true, true, false, false, false, false, false, false] rfl rfl (take_ofW HT_.out HW_.out (by kernel_rfl)) (fun _ _ _ h => h) (Or.inl ⟨by rfl, ?_⟩) hHeld ?_ ?_
    rotate_left
    · rintro w' ⟨s0, s1, s2, s3, s4, s5, s6, s7⟩
      go_simp
      with_reducible rfl
    rotate_left
    · simp only [Act.put, List.setIfInBounds_toArray, List.set_cons_zero, List.set_cons_succ, i64_w, i32_w]
      rfl
    refine one_ (i := 2) (N := some 14) #[true, true, true, true, true, false, true, true, false, true, true, false, true, true, false, false, false, false, false, false] rfl rfl (one_of HT_.out (by kernel_rfl)) (by decide) (fun K hK => ?_)
    refine goes_ Tryd.func32 (by kernel_rfl) rfl #[.int .i64 a0_0] (by rfl) rfl rfl (by (try simp only [List.map_toArray, List.map_cons, List.map_nil]); first | done | rfl | (simp only [List.length_drop, List.length_take]; rfl)) ?_
    with_reducible refine (inst_Name.calls a0_0 t104 _ A4.out).mono ?_
    rintro e w15 ⟨rfl, hb⟩
    refine ⟨_, rfl, ?_⟩
    have n0_ := Aside0.mk (blk_below (g := gb102) (o := .cells #[.int .i64 a0_0, .int .i64 a0_1, .int .i64 a0_2, .int .i64 a0_3, .int .i64 a0_4, .int .i64 a0_5, .bool a0_6, .bool a0_7] 24 (0, 0)) (by (with_reducible repeat (first | refine blk_drewN ?_ _ | refine blk_drew ?_ | refine blk_alloc ?_ _)); exact BK102.out) hb)
    have n1_ := Aside0.mk (below_step (by repeat (first | (with_reducible first | exact HB.out | apply below_alloc | apply pw_below_drewN | apply below_drew1 | refine below_set ?_ GE102.out) | exact HB.out)) hb)
    clear BK102
    clear HB
    have BK102 := n0_
    have HB := n1_
    clear n0_ n1_
    (try clear hb)
    (try clear hb2)
    (try clear hk)
    (try clear hi)
    refine hK.out _ _ ⟨(blk_cell BK102.out 0).trans rfl, (blk_cell BK102.out 1).trans rfl, (blk_cell BK102.out 2).trans rfl, (blk_cell BK102.out 3).trans rfl, (blk_cell BK102.out 4).trans rfl, (blk_cell BK102.out 5).trans rfl, (blk_cell BK102.out 6).trans rfl, (blk_cell BK102.out 7).trans rfl⟩ (fun hHeld => ?_)
    clear hK K
    refine norm_ (a' := ?_) ?_ ?_
    rotate_left
    · show Act.put _ (some 14) _ = _
      simp only [Act.put, List.setIfInBounds_toArray, List.set_cons_zero, List.set_cons_succ, i64_w, i32_w]
      rfl
    refine one_ (i := 5) (N := some 17) #[true, true, true, true, true, true, true, true, false, true, true, false, true, true, false, false, false, false, false, false] rfl rfl (one_of HT_.out (by kernel_rfl)) (by decide) (fun K hK => ?_)
    refine goes_ Tryd.func22 (by kernel_rfl) rfl #[.int .i64 a0_1] (by rfl) rfl rfl (by (try simp only [List.map_toArray, List.map_cons, List.map_nil]); first | done | rfl | (simp only [List.length_drop, List.length_take]; rfl)) ?_
    with_reducible refine (asm_Reg.calls a0_1 t105 _ A5.out).mono ?_
    rintro e w' ⟨rfl, ⟨nd, rfl⟩⟩
    refine ⟨_, rfl, ?_⟩
    refine hK.out _ _ ⟨(blk_cell BK102.out 0).trans rfl, (blk_cell BK102.out 1).trans rfl, (blk_cell BK102.out 2).trans rfl, (blk_cell BK102.out 3).trans rfl, (blk_cell BK102.out 4).trans rfl, (blk_cell BK102.out 5).trans rfl, (blk_cell BK102.out 6).trans rfl, (blk_cell BK102.out 7).trans rfl⟩ (fun hHeld => ?_)
    clear hK K
    refine norm_ (a' := ?_) ?_ ?_
    rotate_left
    · show Act.put _ (some 17) _ = _
      simp only [Act.put, List.setIfInBounds_toArray, List.set_cons_zero, List.set_cons_succ, i64_w, i32_w]
      rfl
    refine one_ (i := 8) (N := some 20) #[true, true, true, true, true, true, true, true, true, true, true, false, true, true, false, false, false, false, false, false] rfl rfl (one_of HT_.out (by kernel_rfl)) (by decide) (fun K hK => ?_)
    refine goes_ Tryd.func22 (by kernel_rfl) rfl #[.int .i64 a0_2] (by rfl) rfl rfl (by (try simp only [List.map_toArray, List.map_cons, List.map_nil]); first | done | rfl | (simp only [List.length_drop, List.length_take]; rfl)) ?_
    with_reducible refine (asm_Reg.calls a0_2 t106 _ A6.out).mono ?_
    rintro e w' ⟨rfl, ⟨nd, rfl⟩⟩
    refine ⟨_, rfl, ?_⟩
    refine hK.out _ _ ⟨(blk_cell BK102.out 0).trans rfl, (blk_cell BK102.out 1).trans rfl, (blk_cell BK102.out 2).trans rfl, (blk_cell BK102.out 3).trans rfl, (blk_cell BK102.out 4).trans rfl, (blk_cell BK102.out 5).trans rfl, (blk_cell BK102.out 6).trans rfl, (blk_cell BK102.out 7).trans rfl⟩ (fun hHeld => ?_)
    clear hK K
    refine norm_ (a' := ?_) ?_ ?_
    rotate_left
    · show Act.put _ (some 20) _ = _
      simp only [Act.put, List.setIfInBounds_toArray, List.set_cons_zero, List.set_cons_succ, i64_w, i32_w]
      rfl
    refine one_ (i := 11) (N := some 23) #[true, true, true, true, true, true, true, true, true, true, true, true, true, true, false, false, false, false, false, false] rfl rfl (one_of HT_.out (by kernel_rfl)) (by decide) (fun K hK => ?_)
    refine goes_ Tryd.func22 (by kernel_rfl) rfl #[.int .i64 a0_3] (by rfl) rfl rfl (by (try simp only [List.map_toArray, List.map_cons, List.map_nil]); first | done | rfl | (simp only [List.length_drop, List.length_take]; rfl)) ?_
    with_reducible refine (asm_Reg.calls a0_3 t107 _ A7.out).mono ?_
    rintro e w' ⟨rfl, ⟨nd, rfl⟩⟩
    refine ⟨_, rfl, ?_⟩
    refine hK.out _ _ ⟨(blk_cell BK102.out 0).trans rfl, (blk_cell BK102.out 1).trans rfl, (blk_cell BK102.out 2).trans rfl, (blk_cell BK102.out 3).trans rfl, (blk_cell BK102.out 4).trans rfl, (blk_cell BK102.out 5).trans rfl, (blk_cell BK102.out 6).trans rfl, (blk_cell BK102.out 7).trans rfl⟩ (fun hHeld => ?_)
    clear hK K
    refine norm_ (a' := ?_) ?_ ?_
    rotate_left
    · show Act.put _ (some 23) _ = _
      simp only [Act.put, List.setIfInBounds_toArray, List.set_cons_zero, List.set_cons_succ, i64_w, i32_w]
      rfl
    refine one_ (i := 14) (N := some 26) #[true, true, true, true, true, true, true, true, true, true, true, true, true, true, true, false, false, false, false, false] rfl rfl (one_of HT_.out (by kernel_rfl)) (by decide) (fun K hK => ?_)
    refine goes_ Tryd.func33 (by kernel_rfl) rfl #[.int .i64 a0_4] (by rfl) rfl rfl (by (try simp only [List.map_toArray, List.map_cons, List.map_nil]); first | done | rfl | (simp only [List.length_drop, List.length_take]; rfl)) ?_
    with_reducible refine (word_Dec.calls a0_4 t108 _ A8.out).mono ?_
    rintro e w' ⟨rfl, ⟨nd, rfl⟩⟩
    refine ⟨_, rfl, ?_⟩
    refine hK.out _ _ ⟨(blk_cell BK102.out 0).trans rfl, (blk_cell BK102.out 1).trans rfl, (blk_cell BK102.out 2).trans rfl, (blk_cell BK102.out 3).trans rfl, (blk_cell BK102.out 4).trans rfl, (blk_cell BK102.out 5).trans rfl, (blk_cell BK102.out 6).trans rfl, (blk_cell BK102.out 7).trans rfl⟩ (fun hHeld => ?_)
    clear hK K
    refine norm_ (a' := ?_) ?_ ?_
    rotate_left
    · show Act.put _ (some 26) _ = _
      simp only [Act.put, List.setIfInBounds_toArray, List.set_cons_zero, List.set_cons_succ, i64_w, i32_w]
      rfl
    refine pure_ (i := 15) (N := some 3) (v := ?_) (a' := ?_) #[true, true, true, true, true, true, true, true, true, true, true, true, true, true, true, true, false, false, false, false] rfl rfl (any_of HT_.out (by kernel_rfl)) (fun _ _ _ h => h) (Or.inl ⟨by rfl, ?_⟩) ?_ ?_
    rotate_left
    · intro w'
      go_simp
      with_reducible rfl
    rotate_left
    · simp only [Act.put, List.setIfInBounds_toArray, List.set_cons_zero, List.set_cons_succ, i64_w, i32_w]
      rfl
    refine pure_ (i := 16) (N := some 4) (v := ?_) (a' := ?_) #[true, true, true, true, true, true, true, true, true, true, true, true, true, true, true, true, true, false, false, false] rfl rfl (any_of HT_.out (by kernel_rfl)) (fun _ _ _ h => h) (Or.inl ⟨by rfl, ?_⟩) ?_ ?_
    rotate_left
    · intro w'
      go_simp
      with_reducible rfl
    rotate_left
    · simp only [Act.put, List.setIfInBounds_toArray, List.set_cons_zero, List.set_cons_succ, i64_w, i32_w]
      rfl
    refine pure_ (i := 17) (N := some 5) (v := ?_) (a' := ?_) #[true, true, true, true, true, true, true, true, true, true, true, true, true, true, true, true, true, true, false, false] rfl rfl (any_of HT_.out (by kernel_rfl)) (fun _ _ _ h => h) (Or.inl ⟨by rfl, ?_⟩) ?_ ?_
    rotate_left
    · intro w'
      go_simp
      with_reducible rfl
    rotate_left
    · simp only [Act.put, List.setIfInBounds_toArray, List.set_cons_zero, List.set_cons_succ, i64_w, i32_w]
      rfl
    refine pure_ (i := 18) (N := some 6) (v := ?_) (a' := ?_) #[true, true, true, true, true, true, true, true, true, true, true, true, true, true, true, true, true, true, true, false] rfl rfl (any_of HT_.out (by kernel_rfl)) (fun _ _ _ h => h) (Or.inl ⟨by rfl, ?_⟩) ?_ ?_
    rotate_left
    · intro w'
      go_simp
      with_reducible rfl
    rotate_left
    · simp only [Act.put, List.setIfInBounds_toArray, List.set_cons_zero, List.set_cons_succ, i64_w, i32_w]
      rfl
    refine pure_ (i := 19) (N := some 7) (v := ?_) (a' := ?_) #[true, true, true, true, true, true, true, true, true, true, true, true, true, true, true, true, true, true, true, true] rfl rfl (any_of HT_.out (by kernel_rfl)) (fun _ _ _ h => h) (Or.inl ⟨by rfl, ?_⟩) ?_ ?_
    rotate_left
    · intro w'
      go_simp
      with_reducible rfl
    rotate_left
    · simp only [Act.put, List.setIfInBounds_toArray, List.set_cons_zero, List.set_cons_succ, i64_w, i32_w]
      rfl
    refine done_ (done_of HT_.out (by kernel_rfl)) ?_
    have hcz16_0 : w15.cell? ⟨gb102, 0, none⟩ = some (.int .i64 a0_0) := (blk_cell BK102.out 0).trans rfl
    have hcz16_1 : w15.cell? ⟨gb102, 1, none⟩ = some (.int .i64 a0_1) := (blk_cell BK102.out 1).trans rfl
    have hcz16_2 : w15.cell? ⟨gb102, 2, none⟩ = some (.int .i64 a0_2) := (blk_cell BK102.out 2).trans rfl
    have hcz16_3 : w15.cell? ⟨gb102, 3, none⟩ = some (.int .i64 a0_3) := (blk_cell BK102.out 3).trans rfl
    have hcz16_4 : w15.cell? ⟨gb102, 4, none⟩ = some (.int .i64 a0_4) := (blk_cell BK102.out 4).trans rfl
    have hcz16_5 : w15.cell? ⟨gb102, 5, none⟩ = some (.int .i64 a0_5) := (blk_cell BK102.out 5).trans rfl
    have hcz16_6 : w15.cell? ⟨gb102, 6, none⟩ = some (.bool a0_6) := (blk_cell BK102.out 6).trans rfl
    have hcz16_7 : w15.cell? ⟨gb102, 7, none⟩ = some (.bool a0_7) := (blk_cell BK102.out 7).trans rfl
    have hfz16_0 := blk_frozen BK102.out 0
    have hfz16_1 := blk_frozen BK102.out 1
    have hfz16_2 := blk_frozen BK102.out 2
    have hfz16_3 := blk_frozen BK102.out 3
    have hfz16_4 := blk_frozen BK102.out 4
    have hfz16_5 := blk_frozen BK102.out 5
    have hfz16_6 := blk_frozen BK102.out 6
    have hfz16_7 := blk_frozen BK102.out 7
    go_upto_region 5 with (first | ((with_reducible refine gate_callee (f := 34) rfl ?_); refine goesL_ (some 30) rfl rfl Tryd.func34 (by kernel_rfl) rfl #[.int .u64 (IntKind.u64.wrap (a0_5))] rfl (by (try simp only [List.map_toArray, List.map_cons, List.map_nil]); first | done | rfl | (simp only [List.length_drop, List.length_take]; rfl)) ?_; (with_reducible refine (word_Hex.calls (IntKind.u64.wrap (a0_5)) t109 _ A9.out).mono ?_); rintro e w' ⟨rfl, ⟨nd, rfl⟩⟩; refine ⟨_, rfl, ?_⟩))
    (try simp only [Act.put, List.setIfInBounds_toArray, List.set_cons_zero, List.set_cons_succ])
    go_cut [31] (fun v31 wc => ∃ (kq : Nat) (x31_9 : Bool), v31 = .bool x31_9 ∧ Aside0 (asm_Print.j0 kq t104 t105 t106 t107 t108 t109 x31_9 a0_0 a0_1 a0_2 a0_3 a0_4 a0_5 a0_6 a0_7 = some r) ∧ Aside0 (kq ≤ k) ∧ Aside0 (wc.heap[gb102]? = some (.cells #[.int .i64 a0_0, .int .i64 a0_1, .int .i64 a0_2, .int .i64 a0_3, .int .i64 a0_4, .int .i64 a0_5, .bool a0_6, .bool a0_7] 24 (0, 0))) ∧ Aside0 (Below w.heap.size w wc))
    case first => as_aux_lemma =>
      have H := HC10.out
      clear HC10
      by_cases c17 : a0_0 = 1
      · as_aux_lemma =>
        rw [if_pos c17] at H
        have c17b0 : (a0_0 == 1) = true := beq_iff_eq.mpr c17
        have c17b1 : (a0_0 != 1) = false := bne_eq_false_iff_eq.mpr c17
        clear c17
        (first | rw [c17b0] | (simp only [i64_w, i32_w]; rw [c17b0]) | skip)
        have H' := Aside0.mk H
        clear H
        have hcz18_0 : w15.cell? ⟨gb102, 0, none⟩ = some (.int .i64 a0_0) := (blk_cell BK102.out 0).trans rfl
        have hcz18_1 : w15.cell? ⟨gb102, 1, none⟩ = some (.int .i64 a0_1) := (blk_cell BK102.out 1).trans rfl
        have hcz18_2 : w15.cell? ⟨gb102, 2, none⟩ = some (.int .i64 a0_2) := (blk_cell BK102.out 2).trans rfl
        have hcz18_3 : w15.cell? ⟨gb102, 3, none⟩ = some (.int .i64 a0_3) := (blk_cell BK102.out 3).trans rfl
        have hcz18_4 : w15.cell? ⟨gb102, 4, none⟩ = some (.int .i64 a0_4) := (blk_cell BK102.out 4).trans rfl
        have hcz18_5 : w15.cell? ⟨gb102, 5, none⟩ = some (.int .i64 a0_5) := (blk_cell BK102.out 5).trans rfl
        have hcz18_6 : w15.cell? ⟨gb102, 6, none⟩ = some (.bool a0_6) := (blk_cell BK102.out 6).trans rfl
        have hcz18_7 : w15.cell? ⟨gb102, 7, none⟩ = some (.bool a0_7) := (blk_cell BK102.out 7).trans rfl
        have hfz18_0 := blk_frozen BK102.out 0
        have hfz18_1 := blk_frozen BK102.out 1
        have hfz18_2 := blk_frozen BK102.out 2
        have hfz18_3 := blk_frozen BK102.out 3
        have hfz18_4 := blk_frozen BK102.out 4
        have hfz18_5 := blk_frozen BK102.out 5
        have hfz18_6 := blk_frozen BK102.out 6
        have hfz18_7 := blk_frozen BK102.out 7
        go_wp2
        go_meet
        case rel => exact ⟨_, (true), (by first | rfl | (simp; done) | (simp [*]; done)), H', ⟨by first | omega | exact Nat.le_refl _⟩, ⟨by (with_reducible repeat (first | refine blk_drewN ?_ _ | refine blk_drew ?_ | refine blk_alloc ?_ _)); exact BK102.out⟩, ⟨by repeat (first | (with_reducible first | exact HB.out | apply below_alloc | apply pw_below_drewN | apply below_drew1 | refine below_set ?_ GE102.out) | exact HB.out)⟩⟩
      · as_aux_lemma =>
        rw [if_neg c17] at H
        have c17b0 : (a0_0 == 1) = false := beq_eq_false_iff_ne.mpr c17
        have c17b1 : (a0_0 != 1) = true := bne_iff_ne.mpr c17
        (first | rw [c17b0] | (simp only [i64_w, i32_w]; rw [c17b0]) | skip)
        have H' := Aside0.mk H
        clear H
        have hcz19_0 : w15.cell? ⟨gb102, 0, none⟩ = some (.int .i64 a0_0) := (blk_cell BK102.out 0).trans rfl
        have hcz19_1 : w15.cell? ⟨gb102, 1, none⟩ = some (.int .i64 a0_1) := (blk_cell BK102.out 1).trans rfl
        have hcz19_2 : w15.cell? ⟨gb102, 2, none⟩ = some (.int .i64 a0_2) := (blk_cell BK102.out 2).trans rfl
        have hcz19_3 : w15.cell? ⟨gb102, 3, none⟩ = some (.int .i64 a0_3) := (blk_cell BK102.out 3).trans rfl
        have hcz19_4 : w15.cell? ⟨gb102, 4, none⟩ = some (.int .i64 a0_4) := (blk_cell BK102.out 4).trans rfl
        have hcz19_5 : w15.cell? ⟨gb102, 5, none⟩ = some (.int .i64 a0_5) := (blk_cell BK102.out 5).trans rfl
        have hcz19_6 : w15.cell? ⟨gb102, 6, none⟩ = some (.bool a0_6) := (blk_cell BK102.out 6).trans rfl
        have hcz19_7 : w15.cell? ⟨gb102, 7, none⟩ = some (.bool a0_7) := (blk_cell BK102.out 7).trans rfl
        have hfz19_0 := blk_frozen BK102.out 0
        have hfz19_1 := blk_frozen BK102.out 1
        have hfz19_2 := blk_frozen BK102.out 2
        have hfz19_3 := blk_frozen BK102.out 3
        have hfz19_4 := blk_frozen BK102.out 4
        have hfz19_5 := blk_frozen BK102.out 5
        have hfz19_6 := blk_frozen BK102.out 6
        have hfz19_7 := blk_frozen BK102.out 7
        go_wp2
        go_meet
        case rel => exact ⟨_, ((a0_0 == 2)), (by first | rfl | (simp; done) | (simp [*]; done)), H', ⟨by first | omega | exact Nat.le_refl _⟩, ⟨by (with_reducible repeat (first | refine blk_drewN ?_ _ | refine blk_drew ?_ | refine blk_alloc ?_ _)); exact BK102.out⟩, ⟨by repeat (first | (with_reducible first | exact HB.out | apply below_alloc | apply pw_below_drewN | apply below_drew1 | refine below_set ?_ GE102.out) | exact HB.out)⟩⟩
    case rest => as_aux_lemma =>
      clear HC10
      try clear c1
      try clear c2
      try clear p2
      try clear c3
      try clear c3b0
      try clear c3b1
      try clear c10
      try clear c11
      try clear c17
      try clear c17b0
      try clear c17b1
      try clear hcz12_0
      try clear hcz12_1
      try clear hcz12_2
      try clear hcz12_3
      try clear hcz12_4
      try clear hcz12_5
      try clear hcz12_6
      try clear hcz12_7
      try clear hcz16_0
      try clear hcz16_1
      try clear hcz16_2
      try clear hcz16_3
      try clear hcz16_4
      try clear hcz16_5
      try clear hcz16_6
      try clear hcz16_7
      try clear hcz18_0
      try clear hcz18_1
      try clear hcz18_2
      try clear hcz18_3
      try clear hcz18_4
      try clear hcz18_5
      try clear hcz18_6
      try clear hcz18_7
      try clear hcz19_0
      try clear hcz19_1
      try clear hcz19_2
      try clear hcz19_3
      try clear hcz19_4
      try clear hcz19_5
      try clear hcz19_6
      try clear hcz19_7
      try clear hfz12_0
      try clear hfz12_1
      try clear hfz12_2
      try clear hfz12_3
      try clear hfz12_4
      try clear hfz12_5
      try clear hfz12_6
      try clear hfz12_7
      try clear hfz16_0
      try clear hfz16_1
      try clear hfz16_2
      try clear hfz16_3
      try clear hfz16_4
      try clear hfz16_5
      try clear hfz16_6
      try clear hfz16_7
      try clear hfz18_0
      try clear hfz18_1
      try clear hfz18_2
      try clear hfz18_3
      try clear hfz18_4
      try clear hfz18_5
      try clear hfz18_6
      try clear hfz18_7
      try clear hfz19_0
      try clear hfz19_1
      try clear hfz19_2
      try clear hfz19_3
      try clear hfz19_4
      try clear hfz19_5
      try clear hfz19_6
      try clear hfz19_7
      obtain ⟨kq, x31_9, rfl, HA, HJ9, BK102, HB⟩ := hcut
      cases kq with
      | zero => exact absurd HA.out (by simp [asm_Print.j0])
      | succ kj9 =>
        have H := HA.out
        clear HA
        simp only [asm_Print.j0] at H
        by_cases c20 : x31_9 = true
        · subst c20
          have H1 : ((word_Dec.f (wrap64 (Int.tdiv a0_4 4096))).bind fun t110 => ((asm_join.f t104 (([t105, t110] : List ByteArray))).bind fun t114 => (some t114))) = some r := by rw [if_pos rfl] at H; exact H
          clear H
          have H := H1
          clear H1
          replace H := Option.bind_eq_some_iff.mp H
          obtain ⟨t110, A210, H⟩ := H
          replace H : ((asm_join.f t104 (([t105, t110] : List ByteArray))).bind fun t114 => (some t114)) = some r := H
          have A21 := Aside0.mk A210
          clear A210
          obtain ⟨y111, hy111⟩ : ∃ y_ : List ByteArray, y_ = (([t105, t110] : List ByteArray)) := ⟨_, rfl⟩
          replace H : ((asm_join.f t104 y111).bind fun t114 => (some t114)) = some r := by first | (rw [hy111]; with_reducible exact H) | (have H2_ := (Option.bind_some _ _).symm.trans H; rw [hy111]; with_reducible exact H2_) | (have H2_ := (Option.bind_some _ _).symm.trans H; with_reducible exact H2_) | with_reducible exact H | (rw [hy111]; exact H) | exact H
          have Ny111 := Aside0.mk hy111
          clear hy111
          replace H := Option.bind_eq_some_iff.mp H
          obtain ⟨t114, A220, H⟩ := H
          replace H : (some t114) = some r := H
          have A22 := Aside0.mk A220
          clear A220
          obtain rfl := Option.some.inj H
          have hcz23_0 : wc.cell? ⟨gb102, 0, none⟩ = some (.int .i64 a0_0) := (blk_cell BK102.out 0).trans rfl
          have hcz23_1 : wc.cell? ⟨gb102, 1, none⟩ = some (.int .i64 a0_1) := (blk_cell BK102.out 1).trans rfl
          have hcz23_2 : wc.cell? ⟨gb102, 2, none⟩ = some (.int .i64 a0_2) := (blk_cell BK102.out 2).trans rfl
          have hcz23_3 : wc.cell? ⟨gb102, 3, none⟩ = some (.int .i64 a0_3) := (blk_cell BK102.out 3).trans rfl
          have hcz23_4 : wc.cell? ⟨gb102, 4, none⟩ = some (.int .i64 a0_4) := (blk_cell BK102.out 4).trans rfl
          have hcz23_5 : wc.cell? ⟨gb102, 5, none⟩ = some (.int .i64 a0_5) := (blk_cell BK102.out 5).trans rfl
          have hcz23_6 : wc.cell? ⟨gb102, 6, none⟩ = some (.bool a0_6) := (blk_cell BK102.out 6).trans rfl
          have hcz23_7 : wc.cell? ⟨gb102, 7, none⟩ = some (.bool a0_7) := (blk_cell BK102.out 7).trans rfl
          have hfz23_0 := blk_frozen BK102.out 0
          have hfz23_1 := blk_frozen BK102.out 1
          have hfz23_2 := blk_frozen BK102.out 2
          have hfz23_3 := blk_frozen BK102.out 3
          have hfz23_4 := blk_frozen BK102.out 4
          have hfz23_5 := blk_frozen BK102.out 5
          have hfz23_6 := blk_frozen BK102.out 6
          have hfz23_7 := blk_frozen BK102.out 7
          go_wp2_with (first | ((with_reducible refine gate_callee (f := 33) rfl ?_); refine goesL_ (some 45) rfl rfl Tryd.func33 (by kernel_rfl) rfl #[.int .i64 (wrap64 (Int.tdiv a0_4 4096))] rfl (by (try simp only [List.map_toArray, List.map_cons, List.map_nil]); first | done | rfl | (simp only [List.length_drop, List.length_take]; rfl)) ?_; (with_reducible refine (word_Dec.calls (wrap64 (Int.tdiv a0_4 4096)) t110 _ A21.out).mono ?_); rintro e w' ⟨rfl, ⟨nd, rfl⟩⟩; refine ⟨_, rfl, ?_⟩) | ((with_reducible refine gate_dst (N := 46) rfl ?_); refine Kd.R_lit Kd.string _ 9 ?hg (N := 46) ?hd (xs := ([t105, t110] : List ByteArray)) (inner := [.string t105, .string t110]) (ok := fun _ => True) (okp := fun _ => True) ?hr ?hp (fun _ hk => hk) trivial (Below.refl _ _) (Nat.le_refl _) (by simp) ?_; (case hd => rfl); (case hg => rfl); (case hr => first | (go_simp; done) | (go_simp; rfl)); (case hp => exact (Reps.one (show Kd.M Kd.string _ _ _ t105 [.string t105] from rfl) (Reps.one (show Kd.M Kd.string _ _ _ t110 [.string t110] from rfl) (Reps.none _ _)))); intro v112 w24 ho25 hb hg_ hnew_; clear hg_ hnew_; (first | rw [← Ny111.out] at ho25 | (simp only [Int.reduceToNat] at ho25; rw [← Ny111.out] at ho25)); have n0_ := Aside0.mk (Kd.R_lower ho25 (below_size (by repeat (first | (with_reducible first | exact HB.out | apply below_alloc | apply pw_below_drewN | apply below_drew1 | refine below_set ?_ GE102.out) | exact HB.out)))); have n1_ := Aside0.mk (blk_below (g := gb102) (o := .cells #[.int .i64 a0_0, .int .i64 a0_1, .int .i64 a0_2, .int .i64 a0_3, .int .i64 a0_4, .int .i64 a0_5, .bool a0_6, .bool a0_7] 24 (0, 0)) (by (with_reducible repeat (first | refine blk_drewN ?_ _ | refine blk_drew ?_ | refine blk_alloc ?_ _)); exact BK102.out) hb); have n2_ := Aside0.mk (below_step (by repeat (first | (with_reducible first | exact HB.out | apply below_alloc | apply pw_below_drewN | apply below_drew1 | refine below_set ?_ GE102.out) | exact HB.out)) hb); clear BK102; clear HB; have HO113 := n0_; have BK102 := n1_; have HB := n2_; clear n0_ n1_ n2_; clear hb ho25; obtain ⟨Ao26, co26, eo26⟩ := Kd.R_slice HO113.out; subst eo26) | ((with_reducible refine gate_callee (f := 35) rfl ?_); refine goesL_ (some 47) rfl rfl Tryd.func35 (by kernel_rfl) rfl #[.string t104, .slice Ao26 y111.length co26] rfl (by (try simp only [List.map_toArray, List.map_cons, List.map_nil]); first | done | rfl | (simp only [List.length_drop, List.length_take]; rfl)) ?_; (with_reducible refine (asm_join.calls t104 _ _ y111 t114 _ ?side1 ?side2 A22.out).mono ?_); (case side1 => repeat (first | exact (Kd.R_reads' HO113.out).2.2 | (with_reducible refine Kd.C_alloc ?_ _) | (with_reducible refine Kd.C_drewN ?_ _) | (with_reducible refine Kd.C_drew ?_))); (case side2 => exact (Kd.R_reads' HO113.out).2.1); rintro e w27 ⟨rfl, hb⟩; refine ⟨_, rfl, ?_⟩; have n0_ := Aside0.mk (Kd.R_below (by (with_reducible repeat (first | apply Kd.R_alloc | apply Kd.R_drewN | apply Kd.R_drew)); exact HO113.out) hb); have n1_ := Aside0.mk (blk_below (g := gb102) (o := .cells #[.int .i64 a0_0, .int .i64 a0_1, .int .i64 a0_2, .int .i64 a0_3, .int .i64 a0_4, .int .i64 a0_5, .bool a0_6, .bool a0_7] 24 (0, 0)) (by (with_reducible repeat (first | refine blk_drewN ?_ _ | refine blk_drew ?_ | refine blk_alloc ?_ _)); exact BK102.out) hb); have n2_ := Aside0.mk (below_step (by repeat (first | (with_reducible first | exact HB.out | apply below_alloc | apply pw_below_drewN | apply below_drew1 | refine below_set ?_ GE102.out) | exact HB.out)) hb); clear HO113; clear BK102; clear HB; have HO113 := n0_; have BK102 := n1_; have HB := n2_; clear n0_ n1_ n2_; (try clear hb); (try clear hb2); (try clear hk); (try clear hi)))
          go_ret
          exact ⟨by first | rfl | (simp [errW_none, errW_some] <;> rfl) | (simp [*, errW_none, errW_some] <;> rfl), by repeat (first | (with_reducible first | exact HB.out | apply below_alloc | apply pw_below_drewN | apply below_drew1 | refine below_set ?_ GE102.out) | exact HB.out)⟩
        · replace c20 := Bool.eq_false_iff.mpr c20
          subst c20
          have H1 : (if a0_0 = 3 then ((asm_join.f t104 (([t105, t108] : List ByteArray))).bind fun t118 => (some t118)) else ((inst_Loads.f a0_0).bind fun t119 => (if t119 = true then (if t108.size + 1 ≤ 9223372036854775807 then (if (t108 ++ (⟨#[40]⟩ : ByteArray)).size + t106.size ≤ 9223372036854775807 then (if ((t108 ++ (⟨#[40]⟩ : ByteArray)) ++ t106).size + 1 ≤ 9223372036854775807 then ((asm_join.f t104 (([t105, ((t108 ++ (⟨#[40]⟩ : ByteArray)) ++ t106) ++ (⟨#[41]⟩ : ByteArray)] : List ByteArray))).bind fun t123 => (some t123)) else (none)) else (none)) else (none)) else ((inst_Stores.f a0_0).bind fun t124 => (if t124 = true then (if t108.size + 1 ≤ 9223372036854775807 then (if (t108 ++ (⟨#[40]⟩ : ByteArray)).size + t106.size ≤ 9223372036854775807 then (if ((t108 ++ (⟨#[40]⟩ : ByteArray)) ++ t106).size + 1 ≤ 9223372036854775807 then ((asm_join.f t104 (([t107, ((t108 ++ (⟨#[40]⟩ : ByteArray)) ++ t106) ++ (⟨#[41]⟩ : ByteArray)] : List ByteArray))).bind fun t128 => (some t128)) else (none)) else (none)) else (none)) else ((inst_Branches.f a0_0).bind fun t129 => (if t129 = true then ((asm_join.f t104 (([t106, t107, t108] : List ByteArray))).bind fun t133 => (some t133)) else (if a0_0 = 54 then (asm_Print.j1 kj9 t104 t105 t106 t107 t108 t109 true a0_0 a0_1 a0_2 a0_3 a0_4 a0_5 a0_6 a0_7) else (if a0_0 = 55 then (asm_Print.j1 kj9 t104 t105 t106 t107 t108 t109 true a0_0 a0_1 a0_2 a0_3 a0_4 a0_5 a0_6 a0_7) else (asm_Print.j1 kj9 t104 t105 t106 t107 t108 t109 (a0_0 == 56) a0_0 a0_1 a0_2 a0_3 a0_4 a0_5 a0_6 a0_7)))))))))) = some r := by rw [if_neg (show ¬ (false = true) by decide)] at H; exact H
          clear H
          have H := H1
          clear H1
          by_cases c28 : a0_0 = 3
          · as_aux_lemma =>
            rw [if_pos c28] at H
            have c28b0 : (a0_0 == 3) = true := beq_iff_eq.mpr c28
            have c28b1 : (a0_0 != 3) = false := bne_eq_false_iff_eq.mpr c28
            clear c28
            obtain ⟨y115, hy115⟩ : ∃ y_ : List ByteArray, y_ = (([t105, t108] : List ByteArray)) := ⟨_, rfl⟩
            replace H : ((asm_join.f t104 y115).bind fun t118 => (some t118)) = some r := by first | (rw [hy115]; with_reducible exact H) | (have H2_ := (Option.bind_some _ _).symm.trans H; rw [hy115]; with_reducible exact H2_) | (have H2_ := (Option.bind_some _ _).symm.trans H; with_reducible exact H2_) | with_reducible exact H | (rw [hy115]; exact H) | exact H
            have Ny115 := Aside0.mk hy115
            clear hy115
            replace H := Option.bind_eq_some_iff.mp H
            obtain ⟨t118, A290, H⟩ := H
            replace H : (some t118) = some r := H
            have A29 := Aside0.mk A290
            clear A290
            obtain rfl := Option.some.inj H
            have hcz30_0 : wc.cell? ⟨gb102, 0, none⟩ = some (.int .i64 a0_0) := (blk_cell BK102.out 0).trans rfl
            have hcz30_1 : wc.cell? ⟨gb102, 1, none⟩ = some (.int .i64 a0_1) := (blk_cell BK102.out 1).trans rfl
            have hcz30_2 : wc.cell? ⟨gb102, 2, none⟩ = some (.int .i64 a0_2) := (blk_cell BK102.out 2).trans rfl
            have hcz30_3 : wc.cell? ⟨gb102, 3, none⟩ = some (.int .i64 a0_3) := (blk_cell BK102.out 3).trans rfl
            have hcz30_4 : wc.cell? ⟨gb102, 4, none⟩ = some (.int .i64 a0_4) := (blk_cell BK102.out 4).trans rfl
            have hcz30_5 : wc.cell? ⟨gb102, 5, none⟩ = some (.int .i64 a0_5) := (blk_cell BK102.out 5).trans rfl
            have hcz30_6 : wc.cell? ⟨gb102, 6, none⟩ = some (.bool a0_6) := (blk_cell BK102.out 6).trans rfl
            have hcz30_7 : wc.cell? ⟨gb102, 7, none⟩ = some (.bool a0_7) := (blk_cell BK102.out 7).trans rfl
            have hfz30_0 := blk_frozen BK102.out 0
            have hfz30_1 := blk_frozen BK102.out 1
            have hfz30_2 := blk_frozen BK102.out 2
            have hfz30_3 := blk_frozen BK102.out 3
            have hfz30_4 := blk_frozen BK102.out 4
            have hfz30_5 := blk_frozen BK102.out 5
            have hfz30_6 := blk_frozen BK102.out 6
            have hfz30_7 := blk_frozen BK102.out 7
            go_wp2_with (first | ((with_reducible refine gate_dst (N := 55) rfl ?_); refine Kd.R_lit Kd.string _ 9 ?hg (N := 55) ?hd (xs := ([t105, t108] : List ByteArray)) (inner := [.string t105, .string t108]) (ok := fun _ => True) (okp := fun _ => True) ?hr ?hp (fun _ hk => hk) trivial (Below.refl _ _) (Nat.le_refl _) (by simp) ?_; (case hd => rfl); (case hg => rfl); (case hr => first | (go_simp; done) | (go_simp; rfl)); (case hp => exact (Reps.one (show Kd.M Kd.string _ _ _ t105 [.string t105] from rfl) (Reps.one (show Kd.M Kd.string _ _ _ t108 [.string t108] from rfl) (Reps.none _ _)))); intro v116 w31 ho32 hb hg_ hnew_; clear hg_ hnew_; (first | rw [← Ny115.out] at ho32 | (simp only [Int.reduceToNat] at ho32; rw [← Ny115.out] at ho32)); have n0_ := Aside0.mk (Kd.R_lower ho32 (below_size (by repeat (first | (with_reducible first | exact HB.out | apply below_alloc | apply pw_below_drewN | apply below_drew1 | refine below_set ?_ GE102.out) | exact HB.out)))); have n1_ := Aside0.mk (blk_below (g := gb102) (o := .cells #[.int .i64 a0_0, .int .i64 a0_1, .int .i64 a0_2, .int .i64 a0_3, .int .i64 a0_4, .int .i64 a0_5, .bool a0_6, .bool a0_7] 24 (0, 0)) (by (with_reducible repeat (first | refine blk_drewN ?_ _ | refine blk_drew ?_ | refine blk_alloc ?_ _)); exact BK102.out) hb); have n2_ := Aside0.mk (below_step (by repeat (first | (with_reducible first | exact HB.out | apply below_alloc | apply pw_below_drewN | apply below_drew1 | refine below_set ?_ GE102.out) | exact HB.out)) hb); clear BK102; clear HB; have HO117 := n0_; have BK102 := n1_; have HB := n2_; clear n0_ n1_ n2_; clear hb ho32; obtain ⟨Ao33, co33, eo33⟩ := Kd.R_slice HO117.out; subst eo33) | ((with_reducible refine gate_callee (f := 35) rfl ?_); refine goesL_ (some 56) rfl rfl Tryd.func35 (by kernel_rfl) rfl #[.string t104, .slice Ao33 y115.length co33] rfl (by (try simp only [List.map_toArray, List.map_cons, List.map_nil]); first | done | rfl | (simp only [List.length_drop, List.length_take]; rfl)) ?_; (with_reducible refine (asm_join.calls t104 _ _ y115 t118 _ ?side1 ?side2 A29.out).mono ?_); (case side1 => repeat (first | exact (Kd.R_reads' HO117.out).2.2 | (with_reducible refine Kd.C_alloc ?_ _) | (with_reducible refine Kd.C_drewN ?_ _) | (with_reducible refine Kd.C_drew ?_))); (case side2 => exact (Kd.R_reads' HO117.out).2.1); rintro e w34 ⟨rfl, hb⟩; refine ⟨_, rfl, ?_⟩; have n0_ := Aside0.mk (Kd.R_below (by (with_reducible repeat (first | apply Kd.R_alloc | apply Kd.R_drewN | apply Kd.R_drew)); exact HO117.out) hb); have n1_ := Aside0.mk (blk_below (g := gb102) (o := .cells #[.int .i64 a0_0, .int .i64 a0_1, .int .i64 a0_2, .int .i64 a0_3, .int .i64 a0_4, .int .i64 a0_5, .bool a0_6, .bool a0_7] 24 (0, 0)) (by (with_reducible repeat (first | refine blk_drewN ?_ _ | refine blk_drew ?_ | refine blk_alloc ?_ _)); exact BK102.out) hb); have n2_ := Aside0.mk (below_step (by repeat (first | (with_reducible first | exact HB.out | apply below_alloc | apply pw_below_drewN | apply below_drew1 | refine below_set ?_ GE102.out) | exact HB.out)) hb); clear HO117; clear BK102; clear HB; have HO117 := n0_; have BK102 := n1_; have HB := n2_; clear n0_ n1_ n2_; (try clear hb); (try clear hb2); (try clear hk); (try clear hi)))
            go_ret
            exact ⟨by first | rfl | (simp [errW_none, errW_some] <;> rfl) | (simp [*, errW_none, errW_some] <;> rfl), by repeat (first | (with_reducible first | exact HB.out | apply below_alloc | apply pw_below_drewN | apply below_drew1 | refine below_set ?_ GE102.out) | exact HB.out)⟩
          · as_aux_lemma =>
            rw [if_neg c28] at H
            have c28b0 : (a0_0 == 3) = false := beq_eq_false_iff_ne.mpr c28
            have c28b1 : (a0_0 != 3) = true := bne_iff_ne.mpr c28
            replace H := Option.bind_eq_some_iff.mp H
            obtain ⟨t119, A350, H⟩ := H
            replace H : (if t119 = true then (if t108.size + 1 ≤ 9223372036854775807 then (if (t108 ++ (⟨#[40]⟩ : ByteArray)).size + t106.size ≤ 9223372036854775807 then (if ((t108 ++ (⟨#[40]⟩ : ByteArray)) ++ t106).size + 1 ≤ 9223372036854775807 then ((asm_join.f t104 (([t105, ((t108 ++ (⟨#[40]⟩ : ByteArray)) ++ t106) ++ (⟨#[41]⟩ : ByteArray)] : List ByteArray))).bind fun t123 => (some t123)) else (none)) else (none)) else (none)) else ((inst_Stores.f a0_0).bind fun t124 => (if t124 = true then (if t108.size + 1 ≤ 9223372036854775807 then (if (t108 ++ (⟨#[40]⟩ : ByteArray)).size + t106.size ≤ 9223372036854775807 then (if ((t108 ++ (⟨#[40]⟩ : ByteArray)) ++ t106).size + 1 ≤ 9223372036854775807 then ((asm_join.f t104 (([t107, ((t108 ++ (⟨#[40]⟩ : ByteArray)) ++ t106) ++ (⟨#[41]⟩ : ByteArray)] : List ByteArray))).bind fun t128 => (some t128)) else (none)) else (none)) else (none)) else ((inst_Branches.f a0_0).bind fun t129 => (if t129 = true then ((asm_join.f t104 (([t106, t107, t108] : List ByteArray))).bind fun t133 => (some t133)) else (if a0_0 = 54 then (asm_Print.j1 kj9 t104 t105 t106 t107 t108 t109 true a0_0 a0_1 a0_2 a0_3 a0_4 a0_5 a0_6 a0_7) else (if a0_0 = 55 then (asm_Print.j1 kj9 t104 t105 t106 t107 t108 t109 true a0_0 a0_1 a0_2 a0_3 a0_4 a0_5 a0_6 a0_7) else (asm_Print.j1 kj9 t104 t105 t106 t107 t108 t109 (a0_0 == 56) a0_0 a0_1 a0_2 a0_3 a0_4 a0_5 a0_6 a0_7)))))))) = some r := H
            have A35 := Aside0.mk A350
            clear A350
            by_cases c36 : t119 = true
            · subst c36
              have H1 : (if t108.size + 1 ≤ 9223372036854775807 then (if (t108 ++ (⟨#[40]⟩ : ByteArray)).size + t106.size ≤ 9223372036854775807 then (if ((t108 ++ (⟨#[40]⟩ : ByteArray)) ++ t106).size + 1 ≤ 9223372036854775807 then ((asm_join.f t104 (([t105, ((t108 ++ (⟨#[40]⟩ : ByteArray)) ++ t106) ++ (⟨#[41]⟩ : ByteArray)] : List ByteArray))).bind fun t123 => (some t123)) else (none)) else (none)) else (none)) = some r := by rw [if_pos rfl] at H; exact H
              clear H
              have H := H1
              clear H1
              by_cases c37 : t108.size + 1 ≤ 9223372036854775807
              · as_aux_lemma =>
                rw [if_pos c37] at H
                have c37b0 := eq_true c37
                have c37b1 : decide (t108.size + 1 ≤ 9223372036854775807) = true := decide_eq_true c37
                try have c37b2 : (9223372036854775807 < t108.size + 1) = False := eq_false (Nat.not_lt.2 c37)
                by_cases c38 : (t108 ++ (⟨#[40]⟩ : ByteArray)).size + t106.size ≤ 9223372036854775807
                · as_aux_lemma =>
                  rw [if_pos c38] at H
                  have c38b0 := eq_true c38
                  have c38b1 : decide ((t108 ++ (⟨#[40]⟩ : ByteArray)).size + t106.size ≤ 9223372036854775807) = true := decide_eq_true c38
                  try have c38b3 : (9223372036854775807 < t108.size + 1 + t106.size) = False := eq_false (Nat.not_lt.2 (by have h_ := c38; simp only [ByteArray.size_append] at h_; exact h_))
                  try have c38b2 : (9223372036854775807 < (t108 ++ (⟨#[40]⟩ : ByteArray)).size + t106.size) = False := eq_false (Nat.not_lt.2 c38)
                  by_cases c39 : ((t108 ++ (⟨#[40]⟩ : ByteArray)) ++ t106).size + 1 ≤ 9223372036854775807
                  · as_aux_lemma =>
                    rw [if_pos c39] at H
                    have c39b0 := eq_true c39
                    have c39b1 : decide (((t108 ++ (⟨#[40]⟩ : ByteArray)) ++ t106).size + 1 ≤ 9223372036854775807) = true := decide_eq_true c39
                    try have c39b3 : (9223372036854775807 < t108.size + 1 + t106.size + 1) = False := eq_false (Nat.not_lt.2 (by have h_ := c39; simp only [ByteArray.size_append] at h_; exact h_))
                    try have c39b2 : (9223372036854775807 < ((t108 ++ (⟨#[40]⟩ : ByteArray)) ++ t106).size + 1) = False := eq_false (Nat.not_lt.2 c39)
                    obtain ⟨y120, hy120⟩ : ∃ y_ : List ByteArray, y_ = (([t105, ((t108 ++ (⟨#[40]⟩ : ByteArray)) ++ t106) ++ (⟨#[41]⟩ : ByteArray)] : List ByteArray)) := ⟨_, rfl⟩
                    replace H : ((asm_join.f t104 y120).bind fun t123 => (some t123)) = some r := by first | (rw [hy120]; with_reducible exact H) | (have H2_ := (Option.bind_some _ _).symm.trans H; rw [hy120]; with_reducible exact H2_) | (have H2_ := (Option.bind_some _ _).symm.trans H; with_reducible exact H2_) | with_reducible exact H | (rw [hy120]; exact H) | exact H
                    have Ny120 := Aside0.mk hy120
                    clear hy120
                    replace H := Option.bind_eq_some_iff.mp H
                    obtain ⟨t123, A400, H⟩ := H
                    replace H : (some t123) = some r := H
                    have A40 := Aside0.mk A400
                    clear A400
                    obtain rfl := Option.some.inj H
                    have hcz41_0 : wc.cell? ⟨gb102, 0, none⟩ = some (.int .i64 a0_0) := (blk_cell BK102.out 0).trans rfl
                    have hcz41_1 : wc.cell? ⟨gb102, 1, none⟩ = some (.int .i64 a0_1) := (blk_cell BK102.out 1).trans rfl
                    have hcz41_2 : wc.cell? ⟨gb102, 2, none⟩ = some (.int .i64 a0_2) := (blk_cell BK102.out 2).trans rfl
                    have hcz41_3 : wc.cell? ⟨gb102, 3, none⟩ = some (.int .i64 a0_3) := (blk_cell BK102.out 3).trans rfl
                    have hcz41_4 : wc.cell? ⟨gb102, 4, none⟩ = some (.int .i64 a0_4) := (blk_cell BK102.out 4).trans rfl
                    have hcz41_5 : wc.cell? ⟨gb102, 5, none⟩ = some (.int .i64 a0_5) := (blk_cell BK102.out 5).trans rfl
                    have hcz41_6 : wc.cell? ⟨gb102, 6, none⟩ = some (.bool a0_6) := (blk_cell BK102.out 6).trans rfl
                    have hcz41_7 : wc.cell? ⟨gb102, 7, none⟩ = some (.bool a0_7) := (blk_cell BK102.out 7).trans rfl
                    have hfz41_0 := blk_frozen BK102.out 0
                    have hfz41_1 := blk_frozen BK102.out 1
                    have hfz41_2 := blk_frozen BK102.out 2
                    have hfz41_3 := blk_frozen BK102.out 3
                    have hfz41_4 := blk_frozen BK102.out 4
                    have hfz41_5 := blk_frozen BK102.out 5
                    have hfz41_6 := blk_frozen BK102.out 6
                    have hfz41_7 := blk_frozen BK102.out 7
                    go_wp2_with (first | ((with_reducible refine gate_callee (f := 36) rfl ?_); refine goesL_ (some 60) rfl rfl Tryd.func36 (by kernel_rfl) rfl #[.int .i64 a0_0] rfl (by (try simp only [List.map_toArray, List.map_cons, List.map_nil]); first | done | rfl | (simp only [List.length_drop, List.length_take]; rfl)) ?_; (with_reducible refine (inst_Loads.calls a0_0 true _ A35.out).mono ?_); rintro e w42 ⟨rfl, hb⟩; refine ⟨_, rfl, ?_⟩; have n0_ := Aside0.mk (blk_below (g := gb102) (o := .cells #[.int .i64 a0_0, .int .i64 a0_1, .int .i64 a0_2, .int .i64 a0_3, .int .i64 a0_4, .int .i64 a0_5, .bool a0_6, .bool a0_7] 24 (0, 0)) (by (with_reducible repeat (first | refine blk_drewN ?_ _ | refine blk_drew ?_ | refine blk_alloc ?_ _)); exact BK102.out) hb); have n1_ := Aside0.mk (below_step (by repeat (first | (with_reducible first | exact HB.out | apply below_alloc | apply pw_below_drewN | apply below_drew1 | refine below_set ?_ GE102.out) | exact HB.out)) hb); clear BK102; clear HB; have BK102 := n0_; have HB := n1_; clear n0_ n1_; (try clear hb); (try clear hb2); (try clear hk); (try clear hi)) | ((with_reducible refine gate_dst (N := 68) rfl ?_); refine Kd.R_lit Kd.string _ 9 ?hg (N := 68) ?hd (xs := ([t105, ((t108 ++ (⟨#[40]⟩ : ByteArray)) ++ t106) ++ (⟨#[41]⟩ : ByteArray)] : List ByteArray)) (inner := [.string t105, .string (((t108 ++ (⟨#[40]⟩ : ByteArray)) ++ t106) ++ (⟨#[41]⟩ : ByteArray))]) (ok := fun _ => True) (okp := fun _ => True) ?hr ?hp (fun _ hk => hk) trivial (Below.refl _ _) (Nat.le_refl _) (by simp) ?_; (case hd => rfl); (case hg => rfl); (case hr => first | (go_simp; done) | (go_simp; rfl)); (case hp => exact (Reps.one (show Kd.M Kd.string _ _ _ t105 [.string t105] from rfl) (Reps.one (show Kd.M Kd.string _ _ _ (((t108 ++ (⟨#[40]⟩ : ByteArray)) ++ t106) ++ (⟨#[41]⟩ : ByteArray)) [.string (((t108 ++ (⟨#[40]⟩ : ByteArray)) ++ t106) ++ (⟨#[41]⟩ : ByteArray))] from rfl) (Reps.none _ _)))); intro v121 w43 ho44 hb hg_ hnew_; clear hg_ hnew_; (first | rw [← Ny120.out] at ho44 | (simp only [Int.reduceToNat] at ho44; rw [← Ny120.out] at ho44)); have n0_ := Aside0.mk (Kd.R_lower ho44 (below_size (by repeat (first | (with_reducible first | exact HB.out | apply below_alloc | apply pw_below_drewN | apply below_drew1 | refine below_set ?_ GE102.out) | exact HB.out)))); have n1_ := Aside0.mk (blk_below (g := gb102) (o := .cells #[.int .i64 a0_0, .int .i64 a0_1, .int .i64 a0_2, .int .i64 a0_3, .int .i64 a0_4, .int .i64 a0_5, .bool a0_6, .bool a0_7] 24 (0, 0)) (by (with_reducible repeat (first | refine blk_drewN ?_ _ | refine blk_drew ?_ | refine blk_alloc ?_ _)); exact BK102.out) hb); have n2_ := Aside0.mk (below_step (by repeat (first | (with_reducible first | exact HB.out | apply below_alloc | apply pw_below_drewN | apply below_drew1 | refine below_set ?_ GE102.out) | exact HB.out)) hb); clear BK102; clear HB; have HO122 := n0_; have BK102 := n1_; have HB := n2_; clear n0_ n1_ n2_; clear hb ho44; obtain ⟨Ao45, co45, eo45⟩ := Kd.R_slice HO122.out; subst eo45) | ((with_reducible refine gate_callee (f := 35) rfl ?_); refine goesL_ (some 69) rfl rfl Tryd.func35 (by kernel_rfl) rfl #[.string t104, .slice Ao45 y120.length co45] rfl (by (try simp only [List.map_toArray, List.map_cons, List.map_nil]); first | done | rfl | (simp only [List.length_drop, List.length_take]; rfl)) ?_; (with_reducible refine (asm_join.calls t104 _ _ y120 t123 _ ?side1 ?side2 A40.out).mono ?_); (case side1 => repeat (first | exact (Kd.R_reads' HO122.out).2.2 | (with_reducible refine Kd.C_alloc ?_ _) | (with_reducible refine Kd.C_drewN ?_ _) | (with_reducible refine Kd.C_drew ?_))); (case side2 => exact (Kd.R_reads' HO122.out).2.1); rintro e w46 ⟨rfl, hb⟩; refine ⟨_, rfl, ?_⟩; have n0_ := Aside0.mk (Kd.R_below (by (with_reducible repeat (first | apply Kd.R_alloc | apply Kd.R_drewN | apply Kd.R_drew)); exact HO122.out) hb); have n1_ := Aside0.mk (blk_below (g := gb102) (o := .cells #[.int .i64 a0_0, .int .i64 a0_1, .int .i64 a0_2, .int .i64 a0_3, .int .i64 a0_4, .int .i64 a0_5, .bool a0_6, .bool a0_7] 24 (0, 0)) (by (with_reducible repeat (first | refine blk_drewN ?_ _ | refine blk_drew ?_ | refine blk_alloc ?_ _)); exact BK102.out) hb); have n2_ := Aside0.mk (below_step (by repeat (first | (with_reducible first | exact HB.out | apply below_alloc | apply pw_below_drewN | apply below_drew1 | refine below_set ?_ GE102.out) | exact HB.out)) hb); clear HO122; clear BK102; clear HB; have HO122 := n0_; have BK102 := n1_; have HB := n2_; clear n0_ n1_ n2_; (try clear hb); (try clear hb2); (try clear hk); (try clear hi)))
                    go_ret
                    exact ⟨by first | rfl | (simp [errW_none, errW_some] <;> rfl) | (simp [*, errW_none, errW_some] <;> rfl), by repeat (first | (with_reducible first | exact HB.out | apply below_alloc | apply pw_below_drewN | apply below_drew1 | refine below_set ?_ GE102.out) | exact HB.out)⟩
                  · rw [if_neg c39] at H
                    exact absurd H (by simp)
                · rw [if_neg c38] at H
                  exact absurd H (by simp)
              · rw [if_neg c37] at H
                exact absurd H (by simp)
            · replace c36 := Bool.eq_false_iff.mpr c36
              subst c36
              have H1 : ((inst_Stores.f a0_0).bind fun t124 => (if t124 = true then (if t108.size + 1 ≤ 9223372036854775807 then (if (t108 ++ (⟨#[40]⟩ : ByteArray)).size + t106.size ≤ 9223372036854775807 then (if ((t108 ++ (⟨#[40]⟩ : ByteArray)) ++ t106).size + 1 ≤ 9223372036854775807 then ((asm_join.f t104 (([t107, ((t108 ++ (⟨#[40]⟩ : ByteArray)) ++ t106) ++ (⟨#[41]⟩ : ByteArray)] : List ByteArray))).bind fun t128 => (some t128)) else (none)) else (none)) else (none)) else ((inst_Branches.f a0_0).bind fun t129 => (if t129 = true then ((asm_join.f t104 (([t106, t107, t108] : List ByteArray))).bind fun t133 => (some t133)) else (if a0_0 = 54 then (asm_Print.j1 kj9 t104 t105 t106 t107 t108 t109 true a0_0 a0_1 a0_2 a0_3 a0_4 a0_5 a0_6 a0_7) else (if a0_0 = 55 then (asm_Print.j1 kj9 t104 t105 t106 t107 t108 t109 true a0_0 a0_1 a0_2 a0_3 a0_4 a0_5 a0_6 a0_7) else (asm_Print.j1 kj9 t104 t105 t106 t107 t108 t109 (a0_0 == 56) a0_0 a0_1 a0_2 a0_3 a0_4 a0_5 a0_6 a0_7))))))) = some r := by rw [if_neg (show ¬ (false = true) by decide)] at H; exact H
              clear H
              have H := H1
              clear H1
              replace H := Option.bind_eq_some_iff.mp H
              obtain ⟨t124, A470, H⟩ := H
              replace H : (if t124 = true then (if t108.size + 1 ≤ 9223372036854775807 then (if (t108 ++ (⟨#[40]⟩ : ByteArray)).size + t106.size ≤ 9223372036854775807 then (if ((t108 ++ (⟨#[40]⟩ : ByteArray)) ++ t106).size + 1 ≤ 9223372036854775807 then ((asm_join.f t104 (([t107, ((t108 ++ (⟨#[40]⟩ : ByteArray)) ++ t106) ++ (⟨#[41]⟩ : ByteArray)] : List ByteArray))).bind fun t128 => (some t128)) else (none)) else (none)) else (none)) else ((inst_Branches.f a0_0).bind fun t129 => (if t129 = true then ((asm_join.f t104 (([t106, t107, t108] : List ByteArray))).bind fun t133 => (some t133)) else (if a0_0 = 54 then (asm_Print.j1 kj9 t104 t105 t106 t107 t108 t109 true a0_0 a0_1 a0_2 a0_3 a0_4 a0_5 a0_6 a0_7) else (if a0_0 = 55 then (asm_Print.j1 kj9 t104 t105 t106 t107 t108 t109 true a0_0 a0_1 a0_2 a0_3 a0_4 a0_5 a0_6 a0_7) else (asm_Print.j1 kj9 t104 t105 t106 t107 t108 t109 (a0_0 == 56) a0_0 a0_1 a0_2 a0_3 a0_4 a0_5 a0_6 a0_7)))))) = some r := H
              have A47 := Aside0.mk A470
              clear A470
              by_cases c48 : t124 = true
              · subst c48
                have H1 : (if t108.size + 1 ≤ 9223372036854775807 then (if (t108 ++ (⟨#[40]⟩ : ByteArray)).size + t106.size ≤ 9223372036854775807 then (if ((t108 ++ (⟨#[40]⟩ : ByteArray)) ++ t106).size + 1 ≤ 9223372036854775807 then ((asm_join.f t104 (([t107, ((t108 ++ (⟨#[40]⟩ : ByteArray)) ++ t106) ++ (⟨#[41]⟩ : ByteArray)] : List ByteArray))).bind fun t128 => (some t128)) else (none)) else (none)) else (none)) = some r := by rw [if_pos rfl] at H; exact H
                clear H
                have H := H1
                clear H1
                by_cases c49 : t108.size + 1 ≤ 9223372036854775807
                · as_aux_lemma =>
                  rw [if_pos c49] at H
                  have c49b0 := eq_true c49
                  have c49b1 : decide (t108.size + 1 ≤ 9223372036854775807) = true := decide_eq_true c49
                  try have c49b2 : (9223372036854775807 < t108.size + 1) = False := eq_false (Nat.not_lt.2 c49)
                  by_cases c50 : (t108 ++ (⟨#[40]⟩ : ByteArray)).size + t106.size ≤ 9223372036854775807
                  · as_aux_lemma =>
                    rw [if_pos c50] at H
                    have c50b0 := eq_true c50
                    have c50b1 : decide ((t108 ++ (⟨#[40]⟩ : ByteArray)).size + t106.size ≤ 9223372036854775807) = true := decide_eq_true c50
                    try have c50b3 : (9223372036854775807 < t108.size + 1 + t106.size) = False := eq_false (Nat.not_lt.2 (by have h_ := c50; simp only [ByteArray.size_append] at h_; exact h_))
                    try have c50b2 : (9223372036854775807 < (t108 ++ (⟨#[40]⟩ : ByteArray)).size + t106.size) = False := eq_false (Nat.not_lt.2 c50)
                    by_cases c51 : ((t108 ++ (⟨#[40]⟩ : ByteArray)) ++ t106).size + 1 ≤ 9223372036854775807
                    · as_aux_lemma =>
                      rw [if_pos c51] at H
                      have c51b0 := eq_true c51
                      have c51b1 : decide (((t108 ++ (⟨#[40]⟩ : ByteArray)) ++ t106).size + 1 ≤ 9223372036854775807) = true := decide_eq_true c51
                      try have c51b3 : (9223372036854775807 < t108.size + 1 + t106.size + 1) = False := eq_false (Nat.not_lt.2 (by have h_ := c51; simp only [ByteArray.size_append] at h_; exact h_))
                      try have c51b2 : (9223372036854775807 < ((t108 ++ (⟨#[40]⟩ : ByteArray)) ++ t106).size + 1) = False := eq_false (Nat.not_lt.2 c51)
                      obtain ⟨y125, hy125⟩ : ∃ y_ : List ByteArray, y_ = (([t107, ((t108 ++ (⟨#[40]⟩ : ByteArray)) ++ t106) ++ (⟨#[41]⟩ : ByteArray)] : List ByteArray)) := ⟨_, rfl⟩
                      replace H : ((asm_join.f t104 y125).bind fun t128 => (some t128)) = some r := by first | (rw [hy125]; with_reducible exact H) | (have H2_ := (Option.bind_some _ _).symm.trans H; rw [hy125]; with_reducible exact H2_) | (have H2_ := (Option.bind_some _ _).symm.trans H; with_reducible exact H2_) | with_reducible exact H | (rw [hy125]; exact H) | exact H
                      have Ny125 := Aside0.mk hy125
                      clear hy125
                      replace H := Option.bind_eq_some_iff.mp H
                      obtain ⟨t128, A520, H⟩ := H
                      replace H : (some t128) = some r := H
                      have A52 := Aside0.mk A520
                      clear A520
                      obtain rfl := Option.some.inj H
                      have hcz53_0 : wc.cell? ⟨gb102, 0, none⟩ = some (.int .i64 a0_0) := (blk_cell BK102.out 0).trans rfl
                      have hcz53_1 : wc.cell? ⟨gb102, 1, none⟩ = some (.int .i64 a0_1) := (blk_cell BK102.out 1).trans rfl
                      have hcz53_2 : wc.cell? ⟨gb102, 2, none⟩ = some (.int .i64 a0_2) := (blk_cell BK102.out 2).trans rfl
                      have hcz53_3 : wc.cell? ⟨gb102, 3, none⟩ = some (.int .i64 a0_3) := (blk_cell BK102.out 3).trans rfl
                      have hcz53_4 : wc.cell? ⟨gb102, 4, none⟩ = some (.int .i64 a0_4) := (blk_cell BK102.out 4).trans rfl
                      have hcz53_5 : wc.cell? ⟨gb102, 5, none⟩ = some (.int .i64 a0_5) := (blk_cell BK102.out 5).trans rfl
                      have hcz53_6 : wc.cell? ⟨gb102, 6, none⟩ = some (.bool a0_6) := (blk_cell BK102.out 6).trans rfl
                      have hcz53_7 : wc.cell? ⟨gb102, 7, none⟩ = some (.bool a0_7) := (blk_cell BK102.out 7).trans rfl
                      have hfz53_0 := blk_frozen BK102.out 0
                      have hfz53_1 := blk_frozen BK102.out 1
                      have hfz53_2 := blk_frozen BK102.out 2
                      have hfz53_3 := blk_frozen BK102.out 3
                      have hfz53_4 := blk_frozen BK102.out 4
                      have hfz53_5 := blk_frozen BK102.out 5
                      have hfz53_6 := blk_frozen BK102.out 6
                      have hfz53_7 := blk_frozen BK102.out 7
                      go_wp2_with (first | ((with_reducible refine gate_callee (f := 36) rfl ?_); refine goesL_ (some 60) rfl rfl Tryd.func36 (by kernel_rfl) rfl #[.int .i64 a0_0] rfl (by (try simp only [List.map_toArray, List.map_cons, List.map_nil]); first | done | rfl | (simp only [List.length_drop, List.length_take]; rfl)) ?_; (with_reducible refine (inst_Loads.calls a0_0 false _ A35.out).mono ?_); rintro e w54 ⟨rfl, hb⟩; refine ⟨_, rfl, ?_⟩; have n0_ := Aside0.mk (blk_below (g := gb102) (o := .cells #[.int .i64 a0_0, .int .i64 a0_1, .int .i64 a0_2, .int .i64 a0_3, .int .i64 a0_4, .int .i64 a0_5, .bool a0_6, .bool a0_7] 24 (0, 0)) (by (with_reducible repeat (first | refine blk_drewN ?_ _ | refine blk_drew ?_ | refine blk_alloc ?_ _)); exact BK102.out) hb); have n1_ := Aside0.mk (below_step (by repeat (first | (with_reducible first | exact HB.out | apply below_alloc | apply pw_below_drewN | apply below_drew1 | refine below_set ?_ GE102.out) | exact HB.out)) hb); clear BK102; clear HB; have BK102 := n0_; have HB := n1_; clear n0_ n1_; (try clear hb); (try clear hb2); (try clear hk); (try clear hi); have hcz55_0 : w54.cell? ⟨gb102, 0, none⟩ = some (.int .i64 a0_0) := (blk_cell BK102.out 0).trans rfl; have hcz55_1 : w54.cell? ⟨gb102, 1, none⟩ = some (.int .i64 a0_1) := (blk_cell BK102.out 1).trans rfl; have hcz55_2 : w54.cell? ⟨gb102, 2, none⟩ = some (.int .i64 a0_2) := (blk_cell BK102.out 2).trans rfl; have hcz55_3 : w54.cell? ⟨gb102, 3, none⟩ = some (.int .i64 a0_3) := (blk_cell BK102.out 3).trans rfl; have hcz55_4 : w54.cell? ⟨gb102, 4, none⟩ = some (.int .i64 a0_4) := (blk_cell BK102.out 4).trans rfl; have hcz55_5 : w54.cell? ⟨gb102, 5, none⟩ = some (.int .i64 a0_5) := (blk_cell BK102.out 5).trans rfl; have hcz55_6 : w54.cell? ⟨gb102, 6, none⟩ = some (.bool a0_6) := (blk_cell BK102.out 6).trans rfl; have hcz55_7 : w54.cell? ⟨gb102, 7, none⟩ = some (.bool a0_7) := (blk_cell BK102.out 7).trans rfl; have hfz55_0 := blk_frozen BK102.out 0; have hfz55_1 := blk_frozen BK102.out 1; have hfz55_2 := blk_frozen BK102.out 2; have hfz55_3 := blk_frozen BK102.out 3; have hfz55_4 := blk_frozen BK102.out 4; have hfz55_5 := blk_frozen BK102.out 5; have hfz55_6 := blk_frozen BK102.out 6; have hfz55_7 := blk_frozen BK102.out 7) | ((with_reducible refine gate_callee (f := 37) rfl ?_); refine goesL_ (some 73) rfl rfl Tryd.func37 (by kernel_rfl) rfl #[.int .i64 a0_0] rfl (by (try simp only [List.map_toArray, List.map_cons, List.map_nil]); first | done | rfl | (simp only [List.length_drop, List.length_take]; rfl)) ?_; (with_reducible refine (inst_Stores.calls a0_0 true _ A47.out).mono ?_); rintro e w56 ⟨rfl, hb⟩; refine ⟨_, rfl, ?_⟩; have n0_ := Aside0.mk (blk_below (g := gb102) (o := .cells #[.int .i64 a0_0, .int .i64 a0_1, .int .i64 a0_2, .int .i64 a0_3, .int .i64 a0_4, .int .i64 a0_5, .bool a0_6, .bool a0_7] 24 (0, 0)) (by (with_reducible repeat (first | refine blk_drewN ?_ _ | refine blk_drew ?_ | refine blk_alloc ?_ _)); exact BK102.out) hb); have n1_ := Aside0.mk (below_step (by repeat (first | (with_reducible first | exact HB.out | apply below_alloc | apply pw_below_drewN | apply below_drew1 | refine below_set ?_ GE102.out) | exact HB.out)) hb); clear BK102; clear HB; have BK102 := n0_; have HB := n1_; clear n0_ n1_; (try clear hb); (try clear hb2); (try clear hk); (try clear hi)) | ((with_reducible refine gate_dst (N := 81) rfl ?_); refine Kd.R_lit Kd.string _ 9 ?hg (N := 81) ?hd (xs := ([t107, ((t108 ++ (⟨#[40]⟩ : ByteArray)) ++ t106) ++ (⟨#[41]⟩ : ByteArray)] : List ByteArray)) (inner := [.string t107, .string (((t108 ++ (⟨#[40]⟩ : ByteArray)) ++ t106) ++ (⟨#[41]⟩ : ByteArray))]) (ok := fun _ => True) (okp := fun _ => True) ?hr ?hp (fun _ hk => hk) trivial (Below.refl _ _) (Nat.le_refl _) (by simp) ?_; (case hd => rfl); (case hg => rfl); (case hr => first | (go_simp; done) | (go_simp; rfl)); (case hp => exact (Reps.one (show Kd.M Kd.string _ _ _ t107 [.string t107] from rfl) (Reps.one (show Kd.M Kd.string _ _ _ (((t108 ++ (⟨#[40]⟩ : ByteArray)) ++ t106) ++ (⟨#[41]⟩ : ByteArray)) [.string (((t108 ++ (⟨#[40]⟩ : ByteArray)) ++ t106) ++ (⟨#[41]⟩ : ByteArray))] from rfl) (Reps.none _ _)))); intro v126 w57 ho58 hb hg_ hnew_; clear hg_ hnew_; (first | rw [← Ny125.out] at ho58 | (simp only [Int.reduceToNat] at ho58; rw [← Ny125.out] at ho58)); have n0_ := Aside0.mk (Kd.R_lower ho58 (below_size (by repeat (first | (with_reducible first | exact HB.out | apply below_alloc | apply pw_below_drewN | apply below_drew1 | refine below_set ?_ GE102.out) | exact HB.out)))); have n1_ := Aside0.mk (blk_below (g := gb102) (o := .cells #[.int .i64 a0_0, .int .i64 a0_1, .int .i64 a0_2, .int .i64 a0_3, .int .i64 a0_4, .int .i64 a0_5, .bool a0_6, .bool a0_7] 24 (0, 0)) (by (with_reducible repeat (first | refine blk_drewN ?_ _ | refine blk_drew ?_ | refine blk_alloc ?_ _)); exact BK102.out) hb); have n2_ := Aside0.mk (below_step (by repeat (first | (with_reducible first | exact HB.out | apply below_alloc | apply pw_below_drewN | apply below_drew1 | refine below_set ?_ GE102.out) | exact HB.out)) hb); clear BK102; clear HB; have HO127 := n0_; have BK102 := n1_; have HB := n2_; clear n0_ n1_ n2_; clear hb ho58; obtain ⟨Ao59, co59, eo59⟩ := Kd.R_slice HO127.out; subst eo59) | ((with_reducible refine gate_callee (f := 35) rfl ?_); refine goesL_ (some 82) rfl rfl Tryd.func35 (by kernel_rfl) rfl #[.string t104, .slice Ao59 y125.length co59] rfl (by (try simp only [List.map_toArray, List.map_cons, List.map_nil]); first | done | rfl | (simp only [List.length_drop, List.length_take]; rfl)) ?_; (with_reducible refine (asm_join.calls t104 _ _ y125 t128 _ ?side1 ?side2 A52.out).mono ?_); (case side1 => repeat (first | exact (Kd.R_reads' HO127.out).2.2 | (with_reducible refine Kd.C_alloc ?_ _) | (with_reducible refine Kd.C_drewN ?_ _) | (with_reducible refine Kd.C_drew ?_))); (case side2 => exact (Kd.R_reads' HO127.out).2.1); rintro e w60 ⟨rfl, hb⟩; refine ⟨_, rfl, ?_⟩; have n0_ := Aside0.mk (Kd.R_below (by (with_reducible repeat (first | apply Kd.R_alloc | apply Kd.R_drewN | apply Kd.R_drew)); exact HO127.out) hb); have n1_ := Aside0.mk (blk_below (g := gb102) (o := .cells #[.int .i64 a0_0, .int .i64 a0_1, .int .i64 a0_2, .int .i64 a0_3, .int .i64 a0_4, .int .i64 a0_5, .bool a0_6, .bool a0_7] 24 (0, 0)) (by (with_reducible repeat (first | refine blk_drewN ?_ _ | refine blk_drew ?_ | refine blk_alloc ?_ _)); exact BK102.out) hb); have n2_ := Aside0.mk (below_step (by repeat (first | (with_reducible first | exact HB.out | apply below_alloc | apply pw_below_drewN | apply below_drew1 | refine below_set ?_ GE102.out) | exact HB.out)) hb); clear HO127; clear BK102; clear HB; have HO127 := n0_; have BK102 := n1_; have HB := n2_; clear n0_ n1_ n2_; (try clear hb); (try clear hb2); (try clear hk); (try clear hi)))
                      go_ret
                      exact ⟨by first | rfl | (simp [errW_none, errW_some] <;> rfl) | (simp [*, errW_none, errW_some] <;> rfl), by repeat (first | (with_reducible first | exact HB.out | apply below_alloc | apply pw_below_drewN | apply below_drew1 | refine below_set ?_ GE102.out) | exact HB.out)⟩
                    · rw [if_neg c51] at H
                      exact absurd H (by simp)
                  · rw [if_neg c50] at H
                    exact absurd H (by simp)
                · rw [if_neg c49] at H
                  exact absurd H (by simp)
              · replace c48 := Bool.eq_false_iff.mpr c48
                subst c48
                have H1 : ((inst_Branches.f a0_0).bind fun t129 => (if t129 = true then ((asm_join.f t104 (([t106, t107, t108] : List ByteArray))).bind fun t133 => (some t133)) else (if a0_0 = 54 then (asm_Print.j1 kj9 t104 t105 t106 t107 t108 t109 true a0_0 a0_1 a0_2 a0_3 a0_4 a0_5 a0_6 a0_7) else (if a0_0 = 55 then (asm_Print.j1 kj9 t104 t105 t106 t107 t108 t109 true a0_0 a0_1 a0_2 a0_3 a0_4 a0_5 a0_6 a0_7) else (asm_Print.j1 kj9 t104 t105 t106 t107 t108 t109 (a0_0 == 56) a0_0 a0_1 a0_2 a0_3 a0_4 a0_5 a0_6 a0_7))))) = some r := by rw [if_neg (show ¬ (false = true) by decide)] at H; exact H
                clear H
                have H := H1
                clear H1
                replace H := Option.bind_eq_some_iff.mp H
                obtain ⟨t129, A610, H⟩ := H
                replace H : (if t129 = true then ((asm_join.f t104 (([t106, t107, t108] : List ByteArray))).bind fun t133 => (some t133)) else (if a0_0 = 54 then (asm_Print.j1 kj9 t104 t105 t106 t107 t108 t109 true a0_0 a0_1 a0_2 a0_3 a0_4 a0_5 a0_6 a0_7) else (if a0_0 = 55 then (asm_Print.j1 kj9 t104 t105 t106 t107 t108 t109 true a0_0 a0_1 a0_2 a0_3 a0_4 a0_5 a0_6 a0_7) else (asm_Print.j1 kj9 t104 t105 t106 t107 t108 t109 (a0_0 == 56) a0_0 a0_1 a0_2 a0_3 a0_4 a0_5 a0_6 a0_7)))) = some r := H
                have A61 := Aside0.mk A610
                clear A610
                by_cases c62 : t129 = true
                · subst c62
                  have H1 : ((asm_join.f t104 (([t106, t107, t108] : List ByteArray))).bind fun t133 => (some t133)) = some r := by rw [if_pos rfl] at H; exact H
                  clear H
                  have H := H1
                  clear H1
                  obtain ⟨y130, hy130⟩ : ∃ y_ : List ByteArray, y_ = (([t106, t107, t108] : List ByteArray)) := ⟨_, rfl⟩
                  replace H : ((asm_join.f t104 y130).bind fun t133 => (some t133)) = some r := by first | (rw [hy130]; with_reducible exact H) | (have H2_ := (Option.bind_some _ _).symm.trans H; rw [hy130]; with_reducible exact H2_) | (have H2_ := (Option.bind_some _ _).symm.trans H; with_reducible exact H2_) | with_reducible exact H | (rw [hy130]; exact H) | exact H
                  have Ny130 := Aside0.mk hy130
                  clear hy130
                  replace H := Option.bind_eq_some_iff.mp H
                  obtain ⟨t133, A630, H⟩ := H
                  replace H : (some t133) = some r := H
                  have A63 := Aside0.mk A630
                  clear A630
                  obtain rfl := Option.some.inj H
                  have hcz64_0 : wc.cell? ⟨gb102, 0, none⟩ = some (.int .i64 a0_0) := (blk_cell BK102.out 0).trans rfl
                  have hcz64_1 : wc.cell? ⟨gb102, 1, none⟩ = some (.int .i64 a0_1) := (blk_cell BK102.out 1).trans rfl
                  have hcz64_2 : wc.cell? ⟨gb102, 2, none⟩ = some (.int .i64 a0_2) := (blk_cell BK102.out 2).trans rfl
                  have hcz64_3 : wc.cell? ⟨gb102, 3, none⟩ = some (.int .i64 a0_3) := (blk_cell BK102.out 3).trans rfl
                  have hcz64_4 : wc.cell? ⟨gb102, 4, none⟩ = some (.int .i64 a0_4) := (blk_cell BK102.out 4).trans rfl
                  have hcz64_5 : wc.cell? ⟨gb102, 5, none⟩ = some (.int .i64 a0_5) := (blk_cell BK102.out 5).trans rfl
                  have hcz64_6 : wc.cell? ⟨gb102, 6, none⟩ = some (.bool a0_6) := (blk_cell BK102.out 6).trans rfl
                  have hcz64_7 : wc.cell? ⟨gb102, 7, none⟩ = some (.bool a0_7) := (blk_cell BK102.out 7).trans rfl
                  have hfz64_0 := blk_frozen BK102.out 0
                  have hfz64_1 := blk_frozen BK102.out 1
                  have hfz64_2 := blk_frozen BK102.out 2
                  have hfz64_3 := blk_frozen BK102.out 3
                  have hfz64_4 := blk_frozen BK102.out 4
                  have hfz64_5 := blk_frozen BK102.out 5
                  have hfz64_6 := blk_frozen BK102.out 6
                  have hfz64_7 := blk_frozen BK102.out 7
                  go_wp2_with (first | ((with_reducible refine gate_callee (f := 36) rfl ?_); refine goesL_ (some 60) rfl rfl Tryd.func36 (by kernel_rfl) rfl #[.int .i64 a0_0] rfl (by (try simp only [List.map_toArray, List.map_cons, List.map_nil]); first | done | rfl | (simp only [List.length_drop, List.length_take]; rfl)) ?_; (with_reducible refine (inst_Loads.calls a0_0 false _ A35.out).mono ?_); rintro e w65 ⟨rfl, hb⟩; refine ⟨_, rfl, ?_⟩; have n0_ := Aside0.mk (blk_below (g := gb102) (o := .cells #[.int .i64 a0_0, .int .i64 a0_1, .int .i64 a0_2, .int .i64 a0_3, .int .i64 a0_4, .int .i64 a0_5, .bool a0_6, .bool a0_7] 24 (0, 0)) (by (with_reducible repeat (first | refine blk_drewN ?_ _ | refine blk_drew ?_ | refine blk_alloc ?_ _)); exact BK102.out) hb); have n1_ := Aside0.mk (below_step (by repeat (first | (with_reducible first | exact HB.out | apply below_alloc | apply pw_below_drewN | apply below_drew1 | refine below_set ?_ GE102.out) | exact HB.out)) hb); clear BK102; clear HB; have BK102 := n0_; have HB := n1_; clear n0_ n1_; (try clear hb); (try clear hb2); (try clear hk); (try clear hi); have hcz66_0 : w65.cell? ⟨gb102, 0, none⟩ = some (.int .i64 a0_0) := (blk_cell BK102.out 0).trans rfl; have hcz66_1 : w65.cell? ⟨gb102, 1, none⟩ = some (.int .i64 a0_1) := (blk_cell BK102.out 1).trans rfl; have hcz66_2 : w65.cell? ⟨gb102, 2, none⟩ = some (.int .i64 a0_2) := (blk_cell BK102.out 2).trans rfl; have hcz66_3 : w65.cell? ⟨gb102, 3, none⟩ = some (.int .i64 a0_3) := (blk_cell BK102.out 3).trans rfl; have hcz66_4 : w65.cell? ⟨gb102, 4, none⟩ = some (.int .i64 a0_4) := (blk_cell BK102.out 4).trans rfl; have hcz66_5 : w65.cell? ⟨gb102, 5, none⟩ = some (.int .i64 a0_5) := (blk_cell BK102.out 5).trans rfl; have hcz66_6 : w65.cell? ⟨gb102, 6, none⟩ = some (.bool a0_6) := (blk_cell BK102.out 6).trans rfl; have hcz66_7 : w65.cell? ⟨gb102, 7, none⟩ = some (.bool a0_7) := (blk_cell BK102.out 7).trans rfl; have hfz66_0 := blk_frozen BK102.out 0; have hfz66_1 := blk_frozen BK102.out 1; have hfz66_2 := blk_frozen BK102.out 2; have hfz66_3 := blk_frozen BK102.out 3; have hfz66_4 := blk_frozen BK102.out 4; have hfz66_5 := blk_frozen BK102.out 5; have hfz66_6 := blk_frozen BK102.out 6; have hfz66_7 := blk_frozen BK102.out 7) | ((with_reducible refine gate_callee (f := 37) rfl ?_); refine goesL_ (some 73) rfl rfl Tryd.func37 (by kernel_rfl) rfl #[.int .i64 a0_0] rfl (by (try simp only [List.map_toArray, List.map_cons, List.map_nil]); first | done | rfl | (simp only [List.length_drop, List.length_take]; rfl)) ?_; (with_reducible refine (inst_Stores.calls a0_0 false _ A47.out).mono ?_); rintro e w67 ⟨rfl, hb⟩; refine ⟨_, rfl, ?_⟩; have n0_ := Aside0.mk (blk_below (g := gb102) (o := .cells #[.int .i64 a0_0, .int .i64 a0_1, .int .i64 a0_2, .int .i64 a0_3, .int .i64 a0_4, .int .i64 a0_5, .bool a0_6, .bool a0_7] 24 (0, 0)) (by (with_reducible repeat (first | refine blk_drewN ?_ _ | refine blk_drew ?_ | refine blk_alloc ?_ _)); exact BK102.out) hb); have n1_ := Aside0.mk (below_step (by repeat (first | (with_reducible first | exact HB.out | apply below_alloc | apply pw_below_drewN | apply below_drew1 | refine below_set ?_ GE102.out) | exact HB.out)) hb); clear BK102; clear HB; have BK102 := n0_; have HB := n1_; clear n0_ n1_; (try clear hb); (try clear hb2); (try clear hk); (try clear hi); have hcz68_0 : w67.cell? ⟨gb102, 0, none⟩ = some (.int .i64 a0_0) := (blk_cell BK102.out 0).trans rfl; have hcz68_1 : w67.cell? ⟨gb102, 1, none⟩ = some (.int .i64 a0_1) := (blk_cell BK102.out 1).trans rfl; have hcz68_2 : w67.cell? ⟨gb102, 2, none⟩ = some (.int .i64 a0_2) := (blk_cell BK102.out 2).trans rfl; have hcz68_3 : w67.cell? ⟨gb102, 3, none⟩ = some (.int .i64 a0_3) := (blk_cell BK102.out 3).trans rfl; have hcz68_4 : w67.cell? ⟨gb102, 4, none⟩ = some (.int .i64 a0_4) := (blk_cell BK102.out 4).trans rfl; have hcz68_5 : w67.cell? ⟨gb102, 5, none⟩ = some (.int .i64 a0_5) := (blk_cell BK102.out 5).trans rfl; have hcz68_6 : w67.cell? ⟨gb102, 6, none⟩ = some (.bool a0_6) := (blk_cell BK102.out 6).trans rfl; have hcz68_7 : w67.cell? ⟨gb102, 7, none⟩ = some (.bool a0_7) := (blk_cell BK102.out 7).trans rfl; have hfz68_0 := blk_frozen BK102.out 0; have hfz68_1 := blk_frozen BK102.out 1; have hfz68_2 := blk_frozen BK102.out 2; have hfz68_3 := blk_frozen BK102.out 3; have hfz68_4 := blk_frozen BK102.out 4; have hfz68_5 := blk_frozen BK102.out 5; have hfz68_6 := blk_frozen BK102.out 6; have hfz68_7 := blk_frozen BK102.out 7) | ((with_reducible refine gate_callee (f := 38) rfl ?_); refine goesL_ (some 86) rfl rfl Tryd.func38 (by kernel_rfl) rfl #[.int .i64 a0_0] rfl (by (try simp only [List.map_toArray, List.map_cons, List.map_nil]); first | done | rfl | (simp only [List.length_drop, List.length_take]; rfl)) ?_; (with_reducible refine (inst_Branches.calls a0_0 true _ A61.out).mono ?_); rintro e w69 ⟨rfl, hb⟩; refine ⟨_, rfl, ?_⟩; have n0_ := Aside0.mk (blk_below (g := gb102) (o := .cells #[.int .i64 a0_0, .int .i64 a0_1, .int .i64 a0_2, .int .i64 a0_3, .int .i64 a0_4, .int .i64 a0_5, .bool a0_6, .bool a0_7] 24 (0, 0)) (by (with_reducible repeat (first | refine blk_drewN ?_ _ | refine blk_drew ?_ | refine blk_alloc ?_ _)); exact BK102.out) hb); have n1_ := Aside0.mk (below_step (by repeat (first | (with_reducible first | exact HB.out | apply below_alloc | apply pw_below_drewN | apply below_drew1 | refine below_set ?_ GE102.out) | exact HB.out)) hb); clear BK102; clear HB; have BK102 := n0_; have HB := n1_; clear n0_ n1_; (try clear hb); (try clear hb2); (try clear hk); (try clear hi)) | ((with_reducible refine gate_dst (N := 91) rfl ?_); refine Kd.R_lit Kd.string _ 9 ?hg (N := 91) ?hd (xs := ([t106, t107, t108] : List ByteArray)) (inner := [.string t106, .string t107, .string t108]) (ok := fun _ => True) (okp := fun _ => True) ?hr ?hp (fun _ hk => hk) trivial (Below.refl _ _) (Nat.le_refl _) (by simp) ?_; (case hd => rfl); (case hg => rfl); (case hr => first | (go_simp; done) | (go_simp; rfl)); (case hp => exact (Reps.one (show Kd.M Kd.string _ _ _ t106 [.string t106] from rfl) (Reps.one (show Kd.M Kd.string _ _ _ t107 [.string t107] from rfl) (Reps.one (show Kd.M Kd.string _ _ _ t108 [.string t108] from rfl) (Reps.none _ _))))); intro v131 w70 ho71 hb hg_ hnew_; clear hg_ hnew_; (first | rw [← Ny130.out] at ho71 | (simp only [Int.reduceToNat] at ho71; rw [← Ny130.out] at ho71)); have n0_ := Aside0.mk (Kd.R_lower ho71 (below_size (by repeat (first | (with_reducible first | exact HB.out | apply below_alloc | apply pw_below_drewN | apply below_drew1 | refine below_set ?_ GE102.out) | exact HB.out)))); have n1_ := Aside0.mk (blk_below (g := gb102) (o := .cells #[.int .i64 a0_0, .int .i64 a0_1, .int .i64 a0_2, .int .i64 a0_3, .int .i64 a0_4, .int .i64 a0_5, .bool a0_6, .bool a0_7] 24 (0, 0)) (by (with_reducible repeat (first | refine blk_drewN ?_ _ | refine blk_drew ?_ | refine blk_alloc ?_ _)); exact BK102.out) hb); have n2_ := Aside0.mk (below_step (by repeat (first | (with_reducible first | exact HB.out | apply below_alloc | apply pw_below_drewN | apply below_drew1 | refine below_set ?_ GE102.out) | exact HB.out)) hb); clear BK102; clear HB; have HO132 := n0_; have BK102 := n1_; have HB := n2_; clear n0_ n1_ n2_; clear hb ho71; obtain ⟨Ao72, co72, eo72⟩ := Kd.R_slice HO132.out; subst eo72) | ((with_reducible refine gate_callee (f := 35) rfl ?_); refine goesL_ (some 92) rfl rfl Tryd.func35 (by kernel_rfl) rfl #[.string t104, .slice Ao72 y130.length co72] rfl (by (try simp only [List.map_toArray, List.map_cons, List.map_nil]); first | done | rfl | (simp only [List.length_drop, List.length_take]; rfl)) ?_; (with_reducible refine (asm_join.calls t104 _ _ y130 t133 _ ?side1 ?side2 A63.out).mono ?_); (case side1 => repeat (first | exact (Kd.R_reads' HO132.out).2.2 | (with_reducible refine Kd.C_alloc ?_ _) | (with_reducible refine Kd.C_drewN ?_ _) | (with_reducible refine Kd.C_drew ?_))); (case side2 => exact (Kd.R_reads' HO132.out).2.1); rintro e w73 ⟨rfl, hb⟩; refine ⟨_, rfl, ?_⟩; have n0_ := Aside0.mk (Kd.R_below (by (with_reducible repeat (first | apply Kd.R_alloc | apply Kd.R_drewN | apply Kd.R_drew)); exact HO132.out) hb); have n1_ := Aside0.mk (blk_below (g := gb102) (o := .cells #[.int .i64 a0_0, .int .i64 a0_1, .int .i64 a0_2, .int .i64 a0_3, .int .i64 a0_4, .int .i64 a0_5, .bool a0_6, .bool a0_7] 24 (0, 0)) (by (with_reducible repeat (first | refine blk_drewN ?_ _ | refine blk_drew ?_ | refine blk_alloc ?_ _)); exact BK102.out) hb); have n2_ := Aside0.mk (below_step (by repeat (first | (with_reducible first | exact HB.out | apply below_alloc | apply pw_below_drewN | apply below_drew1 | refine below_set ?_ GE102.out) | exact HB.out)) hb); clear HO132; clear BK102; clear HB; have HO132 := n0_; have BK102 := n1_; have HB := n2_; clear n0_ n1_ n2_; (try clear hb); (try clear hb2); (try clear hk); (try clear hi)))
                  go_ret
                  exact ⟨by first | rfl | (simp [errW_none, errW_some] <;> rfl) | (simp [*, errW_none, errW_some] <;> rfl), by repeat (first | (with_reducible first | exact HB.out | apply below_alloc | apply pw_below_drewN | apply below_drew1 | refine below_set ?_ GE102.out) | exact HB.out)⟩
                · replace c62 := Bool.eq_false_iff.mpr c62
                  subst c62
                  have H1 : (if a0_0 = 54 then (asm_Print.j1 kj9 t104 t105 t106 t107 t108 t109 true a0_0 a0_1 a0_2 a0_3 a0_4 a0_5 a0_6 a0_7) else (if a0_0 = 55 then (asm_Print.j1 kj9 t104 t105 t106 t107 t108 t109 true a0_0 a0_1 a0_2 a0_3 a0_4 a0_5 a0_6 a0_7) else (asm_Print.j1 kj9 t104 t105 t106 t107 t108 t109 (a0_0 == 56) a0_0 a0_1 a0_2 a0_3 a0_4 a0_5 a0_6 a0_7))) = some r := by rw [if_neg (show ¬ (false = true) by decide)] at H; exact H
                  clear H
                  have H := H1
                  clear H1
                  have HC74 := Aside0.mk H
                  clear H
                  have hcz75_0 : wc.cell? ⟨gb102, 0, none⟩ = some (.int .i64 a0_0) := (blk_cell BK102.out 0).trans rfl
                  have hcz75_1 : wc.cell? ⟨gb102, 1, none⟩ = some (.int .i64 a0_1) := (blk_cell BK102.out 1).trans rfl
                  have hcz75_2 : wc.cell? ⟨gb102, 2, none⟩ = some (.int .i64 a0_2) := (blk_cell BK102.out 2).trans rfl
                  have hcz75_3 : wc.cell? ⟨gb102, 3, none⟩ = some (.int .i64 a0_3) := (blk_cell BK102.out 3).trans rfl
                  have hcz75_4 : wc.cell? ⟨gb102, 4, none⟩ = some (.int .i64 a0_4) := (blk_cell BK102.out 4).trans rfl
                  have hcz75_5 : wc.cell? ⟨gb102, 5, none⟩ = some (.int .i64 a0_5) := (blk_cell BK102.out 5).trans rfl
                  have hcz75_6 : wc.cell? ⟨gb102, 6, none⟩ = some (.bool a0_6) := (blk_cell BK102.out 6).trans rfl
                  have hcz75_7 : wc.cell? ⟨gb102, 7, none⟩ = some (.bool a0_7) := (blk_cell BK102.out 7).trans rfl
                  have hfz75_0 := blk_frozen BK102.out 0
                  have hfz75_1 := blk_frozen BK102.out 1
                  have hfz75_2 := blk_frozen BK102.out 2
                  have hfz75_3 := blk_frozen BK102.out 3
                  have hfz75_4 := blk_frozen BK102.out 4
                  have hfz75_5 := blk_frozen BK102.out 5
                  have hfz75_6 := blk_frozen BK102.out 6
                  have hfz75_7 := blk_frozen BK102.out 7
                  go_upto_region 15 with (first | ((with_reducible refine gate_callee (f := 36) rfl ?_); refine goesL_ (some 60) rfl rfl Tryd.func36 (by kernel_rfl) rfl #[.int .i64 a0_0] rfl (by (try simp only [List.map_toArray, List.map_cons, List.map_nil]); first | done | rfl | (simp only [List.length_drop, List.length_take]; rfl)) ?_; (with_reducible refine (inst_Loads.calls a0_0 false _ A35.out).mono ?_); rintro e w76 ⟨rfl, hb⟩; refine ⟨_, rfl, ?_⟩; have n0_ := Aside0.mk (blk_below (g := gb102) (o := .cells #[.int .i64 a0_0, .int .i64 a0_1, .int .i64 a0_2, .int .i64 a0_3, .int .i64 a0_4, .int .i64 a0_5, .bool a0_6, .bool a0_7] 24 (0, 0)) (by (with_reducible repeat (first | refine blk_drewN ?_ _ | refine blk_drew ?_ | refine blk_alloc ?_ _)); exact BK102.out) hb); have n1_ := Aside0.mk (below_step (by repeat (first | (with_reducible first | exact HB.out | apply below_alloc | apply pw_below_drewN | apply below_drew1 | refine below_set ?_ GE102.out) | exact HB.out)) hb); clear BK102; clear HB; have BK102 := n0_; have HB := n1_; clear n0_ n1_; (try clear hb); (try clear hb2); (try clear hk); (try clear hi); have hcz77_0 : w76.cell? ⟨gb102, 0, none⟩ = some (.int .i64 a0_0) := (blk_cell BK102.out 0).trans rfl; have hcz77_1 : w76.cell? ⟨gb102, 1, none⟩ = some (.int .i64 a0_1) := (blk_cell BK102.out 1).trans rfl; have hcz77_2 : w76.cell? ⟨gb102, 2, none⟩ = some (.int .i64 a0_2) := (blk_cell BK102.out 2).trans rfl; have hcz77_3 : w76.cell? ⟨gb102, 3, none⟩ = some (.int .i64 a0_3) := (blk_cell BK102.out 3).trans rfl; have hcz77_4 : w76.cell? ⟨gb102, 4, none⟩ = some (.int .i64 a0_4) := (blk_cell BK102.out 4).trans rfl; have hcz77_5 : w76.cell? ⟨gb102, 5, none⟩ = some (.int .i64 a0_5) := (blk_cell BK102.out 5).trans rfl; have hcz77_6 : w76.cell? ⟨gb102, 6, none⟩ = some (.bool a0_6) := (blk_cell BK102.out 6).trans rfl; have hcz77_7 : w76.cell? ⟨gb102, 7, none⟩ = some (.bool a0_7) := (blk_cell BK102.out 7).trans rfl; have hfz77_0 := blk_frozen BK102.out 0; have hfz77_1 := blk_frozen BK102.out 1; have hfz77_2 := blk_frozen BK102.out 2; have hfz77_3 := blk_frozen BK102.out 3; have hfz77_4 := blk_frozen BK102.out 4; have hfz77_5 := blk_frozen BK102.out 5; have hfz77_6 := blk_frozen BK102.out 6; have hfz77_7 := blk_frozen BK102.out 7) | ((with_reducible refine gate_callee (f := 37) rfl ?_); refine goesL_ (some 73) rfl rfl Tryd.func37 (by kernel_rfl) rfl #[.int .i64 a0_0] rfl (by (try simp only [List.map_toArray, List.map_cons, List.map_nil]); first | done | rfl | (simp only [List.length_drop, List.length_take]; rfl)) ?_; (with_reducible refine (inst_Stores.calls a0_0 false _ A47.out).mono ?_); rintro e w78 ⟨rfl, hb⟩; refine ⟨_, rfl, ?_⟩; have n0_ := Aside0.mk (blk_below (g := gb102) (o := .cells #[.int .i64 a0_0, .int .i64 a0_1, .int .i64 a0_2, .int .i64 a0_3, .int .i64 a0_4, .int .i64 a0_5, .bool a0_6, .bool a0_7] 24 (0, 0)) (by (with_reducible repeat (first | refine blk_drewN ?_ _ | refine blk_drew ?_ | refine blk_alloc ?_ _)); exact BK102.out) hb); have n1_ := Aside0.mk (below_step (by repeat (first | (with_reducible first | exact HB.out | apply below_alloc | apply pw_below_drewN | apply below_drew1 | refine below_set ?_ GE102.out) | exact HB.out)) hb); clear BK102; clear HB; have BK102 := n0_; have HB := n1_; clear n0_ n1_; (try clear hb); (try clear hb2); (try clear hk); (try clear hi); have hcz79_0 : w78.cell? ⟨gb102, 0, none⟩ = some (.int .i64 a0_0) := (blk_cell BK102.out 0).trans rfl; have hcz79_1 : w78.cell? ⟨gb102, 1, none⟩ = some (.int .i64 a0_1) := (blk_cell BK102.out 1).trans rfl; have hcz79_2 : w78.cell? ⟨gb102, 2, none⟩ = some (.int .i64 a0_2) := (blk_cell BK102.out 2).trans rfl; have hcz79_3 : w78.cell? ⟨gb102, 3, none⟩ = some (.int .i64 a0_3) := (blk_cell BK102.out 3).trans rfl; have hcz79_4 : w78.cell? ⟨gb102, 4, none⟩ = some (.int .i64 a0_4) := (blk_cell BK102.out 4).trans rfl; have hcz79_5 : w78.cell? ⟨gb102, 5, none⟩ = some (.int .i64 a0_5) := (blk_cell BK102.out 5).trans rfl; have hcz79_6 : w78.cell? ⟨gb102, 6, none⟩ = some (.bool a0_6) := (blk_cell BK102.out 6).trans rfl; have hcz79_7 : w78.cell? ⟨gb102, 7, none⟩ = some (.bool a0_7) := (blk_cell BK102.out 7).trans rfl; have hfz79_0 := blk_frozen BK102.out 0; have hfz79_1 := blk_frozen BK102.out 1; have hfz79_2 := blk_frozen BK102.out 2; have hfz79_3 := blk_frozen BK102.out 3; have hfz79_4 := blk_frozen BK102.out 4; have hfz79_5 := blk_frozen BK102.out 5; have hfz79_6 := blk_frozen BK102.out 6; have hfz79_7 := blk_frozen BK102.out 7) | ((with_reducible refine gate_callee (f := 38) rfl ?_); refine goesL_ (some 86) rfl rfl Tryd.func38 (by kernel_rfl) rfl #[.int .i64 a0_0] rfl (by (try simp only [List.map_toArray, List.map_cons, List.map_nil]); first | done | rfl | (simp only [List.length_drop, List.length_take]; rfl)) ?_; (with_reducible refine (inst_Branches.calls a0_0 false _ A61.out).mono ?_); rintro e w80 ⟨rfl, hb⟩; refine ⟨_, rfl, ?_⟩; have n0_ := Aside0.mk (blk_below (g := gb102) (o := .cells #[.int .i64 a0_0, .int .i64 a0_1, .int .i64 a0_2, .int .i64 a0_3, .int .i64 a0_4, .int .i64 a0_5, .bool a0_6, .bool a0_7] 24 (0, 0)) (by (with_reducible repeat (first | refine blk_drewN ?_ _ | refine blk_drew ?_ | refine blk_alloc ?_ _)); exact BK102.out) hb); have n1_ := Aside0.mk (below_step (by repeat (first | (with_reducible first | exact HB.out | apply below_alloc | apply pw_below_drewN | apply below_drew1 | refine below_set ?_ GE102.out) | exact HB.out)) hb); clear BK102; clear HB; have BK102 := n0_; have HB := n1_; clear n0_ n1_; (try clear hb); (try clear hb2); (try clear hk); (try clear hi)))
                  (try simp only [Act.put, List.setIfInBounds_toArray, List.set_cons_zero, List.set_cons_succ])
                  go_cut [93] (fun v93 wc => ∃ (kq : Nat) (x93_73 : Bool), v93 = .bool x93_73 ∧ Aside0 (asm_Print.j1 kq t104 t105 t106 t107 t108 t109 x93_73 a0_0 a0_1 a0_2 a0_3 a0_4 a0_5 a0_6 a0_7 = some r) ∧ Aside0 (kq ≤ kj9) ∧ Aside0 (wc.heap[gb102]? = some (.cells #[.int .i64 a0_0, .int .i64 a0_1, .int .i64 a0_2, .int .i64 a0_3, .int .i64 a0_4, .int .i64 a0_5, .bool a0_6, .bool a0_7] 24 (0, 0))) ∧ Aside0 (Below w.heap.size w wc))
                  case first => as_aux_lemma =>
                    have H := HC74.out
                    clear HC74
                    by_cases c81 : a0_0 = 54
                    · as_aux_lemma =>
                      rw [if_pos c81] at H
                      have c81b0 : (a0_0 == 54) = true := beq_iff_eq.mpr c81
                      have c81b1 : (a0_0 != 54) = false := bne_eq_false_iff_eq.mpr c81
                      clear c81
                      (first | rw [c81b0] | (simp only [i64_w, i32_w]; rw [c81b0]) | skip)
                      have H' := Aside0.mk H
                      clear H
                      have hcz82_0 : w80.cell? ⟨gb102, 0, none⟩ = some (.int .i64 a0_0) := (blk_cell BK102.out 0).trans rfl
                      have hcz82_1 : w80.cell? ⟨gb102, 1, none⟩ = some (.int .i64 a0_1) := (blk_cell BK102.out 1).trans rfl
                      have hcz82_2 : w80.cell? ⟨gb102, 2, none⟩ = some (.int .i64 a0_2) := (blk_cell BK102.out 2).trans rfl
                      have hcz82_3 : w80.cell? ⟨gb102, 3, none⟩ = some (.int .i64 a0_3) := (blk_cell BK102.out 3).trans rfl
                      have hcz82_4 : w80.cell? ⟨gb102, 4, none⟩ = some (.int .i64 a0_4) := (blk_cell BK102.out 4).trans rfl
                      have hcz82_5 : w80.cell? ⟨gb102, 5, none⟩ = some (.int .i64 a0_5) := (blk_cell BK102.out 5).trans rfl
                      have hcz82_6 : w80.cell? ⟨gb102, 6, none⟩ = some (.bool a0_6) := (blk_cell BK102.out 6).trans rfl
                      have hcz82_7 : w80.cell? ⟨gb102, 7, none⟩ = some (.bool a0_7) := (blk_cell BK102.out 7).trans rfl
                      have hfz82_0 := blk_frozen BK102.out 0
                      have hfz82_1 := blk_frozen BK102.out 1
                      have hfz82_2 := blk_frozen BK102.out 2
                      have hfz82_3 := blk_frozen BK102.out 3
                      have hfz82_4 := blk_frozen BK102.out 4
                      have hfz82_5 := blk_frozen BK102.out 5
                      have hfz82_6 := blk_frozen BK102.out 6
                      have hfz82_7 := blk_frozen BK102.out 7
                      go_wp2
                      go_meet
                      case rel => exact ⟨_, (true), (by first | rfl | (simp; done) | (simp [*]; done)), H', ⟨by have := HJ9.out; first | omega | exact Nat.le_refl _⟩, ⟨by (with_reducible repeat (first | refine blk_drewN ?_ _ | refine blk_drew ?_ | refine blk_alloc ?_ _)); exact BK102.out⟩, ⟨by repeat (first | (with_reducible first | exact HB.out | apply below_alloc | apply pw_below_drewN | apply below_drew1 | refine below_set ?_ GE102.out) | exact HB.out)⟩⟩
                    · as_aux_lemma =>
                      rw [if_neg c81] at H
                      have c81b0 : (a0_0 == 54) = false := beq_eq_false_iff_ne.mpr c81
                      have c81b1 : (a0_0 != 54) = true := bne_iff_ne.mpr c81
                      (first | rw [c81b0] | (simp only [i64_w, i32_w]; rw [c81b0]) | skip)
                      by_cases c83 : a0_0 = 55
                      · as_aux_lemma =>
                        rw [if_pos c83] at H
                        have c83b0 : (a0_0 == 55) = true := beq_iff_eq.mpr c83
                        have c83b1 : (a0_0 != 55) = false := bne_eq_false_iff_eq.mpr c83
                        clear c83
                        have H' := Aside0.mk H
                        clear H
                        have hcz84_0 : w80.cell? ⟨gb102, 0, none⟩ = some (.int .i64 a0_0) := (blk_cell BK102.out 0).trans rfl
                        have hcz84_1 : w80.cell? ⟨gb102, 1, none⟩ = some (.int .i64 a0_1) := (blk_cell BK102.out 1).trans rfl
                        have hcz84_2 : w80.cell? ⟨gb102, 2, none⟩ = some (.int .i64 a0_2) := (blk_cell BK102.out 2).trans rfl
                        have hcz84_3 : w80.cell? ⟨gb102, 3, none⟩ = some (.int .i64 a0_3) := (blk_cell BK102.out 3).trans rfl
                        have hcz84_4 : w80.cell? ⟨gb102, 4, none⟩ = some (.int .i64 a0_4) := (blk_cell BK102.out 4).trans rfl
                        have hcz84_5 : w80.cell? ⟨gb102, 5, none⟩ = some (.int .i64 a0_5) := (blk_cell BK102.out 5).trans rfl
                        have hcz84_6 : w80.cell? ⟨gb102, 6, none⟩ = some (.bool a0_6) := (blk_cell BK102.out 6).trans rfl
                        have hcz84_7 : w80.cell? ⟨gb102, 7, none⟩ = some (.bool a0_7) := (blk_cell BK102.out 7).trans rfl
                        have hfz84_0 := blk_frozen BK102.out 0
                        have hfz84_1 := blk_frozen BK102.out 1
                        have hfz84_2 := blk_frozen BK102.out 2
                        have hfz84_3 := blk_frozen BK102.out 3
                        have hfz84_4 := blk_frozen BK102.out 4
                        have hfz84_5 := blk_frozen BK102.out 5
                        have hfz84_6 := blk_frozen BK102.out 6
                        have hfz84_7 := blk_frozen BK102.out 7
                        go_wp2
                        go_meet
                        case rel => exact ⟨_, (true), (by first | rfl | (simp; done) | (simp [*]; done)), H', ⟨by have := HJ9.out; first | omega | exact Nat.le_refl _⟩, ⟨by (with_reducible repeat (first | refine blk_drewN ?_ _ | refine blk_drew ?_ | refine blk_alloc ?_ _)); exact BK102.out⟩, ⟨by repeat (first | (with_reducible first | exact HB.out | apply below_alloc | apply pw_below_drewN | apply below_drew1 | refine below_set ?_ GE102.out) | exact HB.out)⟩⟩
                      · as_aux_lemma =>
                        rw [if_neg c83] at H
                        have c83b0 : (a0_0 == 55) = false := beq_eq_false_iff_ne.mpr c83
                        have c83b1 : (a0_0 != 55) = true := bne_iff_ne.mpr c83
                        have H' := Aside0.mk H
                        clear H
                        have hcz85_0 : w80.cell? ⟨gb102, 0, none⟩ = some (.int .i64 a0_0) := (blk_cell BK102.out 0).trans rfl
                        have hcz85_1 : w80.cell? ⟨gb102, 1, none⟩ = some (.int .i64 a0_1) := (blk_cell BK102.out 1).trans rfl
                        have hcz85_2 : w80.cell? ⟨gb102, 2, none⟩ = some (.int .i64 a0_2) := (blk_cell BK102.out 2).trans rfl
                        have hcz85_3 : w80.cell? ⟨gb102, 3, none⟩ = some (.int .i64 a0_3) := (blk_cell BK102.out 3).trans rfl
                        have hcz85_4 : w80.cell? ⟨gb102, 4, none⟩ = some (.int .i64 a0_4) := (blk_cell BK102.out 4).trans rfl
                        have hcz85_5 : w80.cell? ⟨gb102, 5, none⟩ = some (.int .i64 a0_5) := (blk_cell BK102.out 5).trans rfl
                        have hcz85_6 : w80.cell? ⟨gb102, 6, none⟩ = some (.bool a0_6) := (blk_cell BK102.out 6).trans rfl
                        have hcz85_7 : w80.cell? ⟨gb102, 7, none⟩ = some (.bool a0_7) := (blk_cell BK102.out 7).trans rfl
                        have hfz85_0 := blk_frozen BK102.out 0
                        have hfz85_1 := blk_frozen BK102.out 1
                        have hfz85_2 := blk_frozen BK102.out 2
                        have hfz85_3 := blk_frozen BK102.out 3
                        have hfz85_4 := blk_frozen BK102.out 4
                        have hfz85_5 := blk_frozen BK102.out 5
                        have hfz85_6 := blk_frozen BK102.out 6
                        have hfz85_7 := blk_frozen BK102.out 7
                        go_wp2
                        go_meet
                        case rel => exact ⟨_, ((a0_0 == 56)), (by first | rfl | (simp; done) | (simp [*]; done)), H', ⟨by have := HJ9.out; first | omega | exact Nat.le_refl _⟩, ⟨by (with_reducible repeat (first | refine blk_drewN ?_ _ | refine blk_drew ?_ | refine blk_alloc ?_ _)); exact BK102.out⟩, ⟨by repeat (first | (with_reducible first | exact HB.out | apply below_alloc | apply pw_below_drewN | apply below_drew1 | refine below_set ?_ GE102.out) | exact HB.out)⟩⟩
                  case rest => as_aux_lemma =>
                    clear HC74
                    try clear c1
                    try clear c2
                    try clear p2
                    try clear c3
                    try clear c3b0
                    try clear c3b1
                    try clear c4
                    try clear c5
                    try clear c6
                    try clear p6
                    try clear c8
                    try clear c10
                    try clear c11
                    try clear c17
                    try clear c17b0
                    try clear c17b1
                    try clear c20
                    try clear c22
                    try clear c28
                    try clear c28b0
                    try clear c28b1
                    try clear c33
                    try clear c34
                    try clear c35
                    try clear c36
                    try clear c37
                    try clear c37b0
                    try clear c37b1
                    try clear c37b2
                    try clear c38
                    try clear c38b0
                    try clear c38b1
                    try clear c38b2
                    try clear c39
                    try clear c39b0
                    try clear c39b1
                    try clear c39b2
                    try clear c48
                    try clear c49
                    try clear c49b0
                    try clear c49b1
                    try clear c49b2
                    try clear c50
                    try clear c50b0
                    try clear c50b1
                    try clear c50b2
                    try clear c51
                    try clear c51b0
                    try clear c51b1
                    try clear c51b2
                    try clear c62
                    try clear p64
                    try clear c81
                    try clear c81b0
                    try clear c81b1
                    try clear c83
                    try clear c83b0
                    try clear c83b1
                    try clear hcz12_0
                    try clear hcz12_1
                    try clear hcz12_2
                    try clear hcz12_3
                    try clear hcz12_4
                    try clear hcz12_5
                    try clear hcz12_6
                    try clear hcz12_7
                    try clear hcz16_0
                    try clear hcz16_1
                    try clear hcz16_2
                    try clear hcz16_3
                    try clear hcz16_4
                    try clear hcz16_5
                    try clear hcz16_6
                    try clear hcz16_7
                    try clear hcz18_0
                    try clear hcz18_1
                    try clear hcz18_2
                    try clear hcz18_3
                    try clear hcz18_4
                    try clear hcz18_5
                    try clear hcz18_6
                    try clear hcz18_7
                    try clear hcz19_0
                    try clear hcz19_1
                    try clear hcz19_2
                    try clear hcz19_3
                    try clear hcz19_4
                    try clear hcz19_5
                    try clear hcz19_6
                    try clear hcz19_7
                    try clear hcz23_0
                    try clear hcz23_1
                    try clear hcz23_2
                    try clear hcz23_3
                    try clear hcz23_4
                    try clear hcz23_5
                    try clear hcz23_6
                    try clear hcz23_7
                    try clear hcz30_0
                    try clear hcz30_1
                    try clear hcz30_2
                    try clear hcz30_3
                    try clear hcz30_4
                    try clear hcz30_5
                    try clear hcz30_6
                    try clear hcz30_7
                    try clear hcz41_0
                    try clear hcz41_1
                    try clear hcz41_2
                    try clear hcz41_3
                    try clear hcz41_4
                    try clear hcz41_5
                    try clear hcz41_6
                    try clear hcz41_7
                    try clear hcz53_0
                    try clear hcz53_1
                    try clear hcz53_2
                    try clear hcz53_3
                    try clear hcz53_4
                    try clear hcz53_5
                    try clear hcz53_6
                    try clear hcz53_7
                    try clear hcz55_0
                    try clear hcz55_1
                    try clear hcz55_2
                    try clear hcz55_3
                    try clear hcz55_4
                    try clear hcz55_5
                    try clear hcz55_6
                    try clear hcz55_7
                    try clear hcz64_0
                    try clear hcz64_1
                    try clear hcz64_2
                    try clear hcz64_3
                    try clear hcz64_4
                    try clear hcz64_5
                    try clear hcz64_6
                    try clear hcz64_7
                    try clear hcz66_0
                    try clear hcz66_1
                    try clear hcz66_2
                    try clear hcz66_3
                    try clear hcz66_4
                    try clear hcz66_5
                    try clear hcz66_6
                    try clear hcz66_7
                    try clear hcz68_0
                    try clear hcz68_1
                    try clear hcz68_2
                    try clear hcz68_3
                    try clear hcz68_4
                    try clear hcz68_5
                    try clear hcz68_6
                    try clear hcz68_7
                    try clear hcz75_0
                    try clear hcz75_1
                    try clear hcz75_2
                    try clear hcz75_3
                    try clear hcz75_4
                    try clear hcz75_5
                    try clear hcz75_6
                    try clear hcz75_7
                    try clear hcz77_0
                    try clear hcz77_1
                    try clear hcz77_2
                    try clear hcz77_3
                    try clear hcz77_4
                    try clear hcz77_5
                    try clear hcz77_6
                    try clear hcz77_7
                    try clear hcz79_0
                    try clear hcz79_1
                    try clear hcz79_2
                    try clear hcz79_3
                    try clear hcz79_4
                    try clear hcz79_5
                    try clear hcz79_6
                    try clear hcz79_7
                    try clear hcz82_0
                    try clear hcz82_1
                    try clear hcz82_2
                    try clear hcz82_3
                    try clear hcz82_4
                    try clear hcz82_5
                    try clear hcz82_6
                    try clear hcz82_7
                    try clear hcz84_0
                    try clear hcz84_1
                    try clear hcz84_2
                    try clear hcz84_3
                    try clear hcz84_4
                    try clear hcz84_5
                    try clear hcz84_6
                    try clear hcz84_7
                    try clear hcz85_0
                    try clear hcz85_1
                    try clear hcz85_2
                    try clear hcz85_3
                    try clear hcz85_4
                    try clear hcz85_5
                    try clear hcz85_6
                    try clear hcz85_7
                    try clear hfz12_0
                    try clear hfz12_1
                    try clear hfz12_2
                    try clear hfz12_3
                    try clear hfz12_4
                    try clear hfz12_5
                    try clear hfz12_6
                    try clear hfz12_7
                    try clear hfz16_0
                    try clear hfz16_1
                    try clear hfz16_2
                    try clear hfz16_3
                    try clear hfz16_4
                    try clear hfz16_5
                    try clear hfz16_6
                    try clear hfz16_7
                    try clear hfz18_0
                    try clear hfz18_1
                    try clear hfz18_2
                    try clear hfz18_3
                    try clear hfz18_4
                    try clear hfz18_5
                    try clear hfz18_6
                    try clear hfz18_7
                    try clear hfz19_0
                    try clear hfz19_1
                    try clear hfz19_2
                    try clear hfz19_3
                    try clear hfz19_4
                    try clear hfz19_5
                    try clear hfz19_6
                    try clear hfz19_7
                    try clear hfz23_0
                    try clear hfz23_1
                    try clear hfz23_2
                    try clear hfz23_3
                    try clear hfz23_4
                    try clear hfz23_5
                    try clear hfz23_6
                    try clear hfz23_7
                    try clear hfz30_0
                    try clear hfz30_1
                    try clear hfz30_2
                    try clear hfz30_3
                    try clear hfz30_4
                    try clear hfz30_5
                    try clear hfz30_6
                    try clear hfz30_7
                    try clear hfz41_0
                    try clear hfz41_1
                    try clear hfz41_2
                    try clear hfz41_3
                    try clear hfz41_4
                    try clear hfz41_5
                    try clear hfz41_6
                    try clear hfz41_7
                    try clear hfz53_0
                    try clear hfz53_1
                    try clear hfz53_2
                    try clear hfz53_3
                    try clear hfz53_4
                    try clear hfz53_5
                    try clear hfz53_6
                    try clear hfz53_7
                    try clear hfz55_0
                    try clear hfz55_1
                    try clear hfz55_2
                    try clear hfz55_3
                    try clear hfz55_4
                    try clear hfz55_5
                    try clear hfz55_6
                    try clear hfz55_7
                    try clear hfz64_0
                    try clear hfz64_1
                    try clear hfz64_2
                    try clear hfz64_3
                    try clear hfz64_4
                    try clear hfz64_5
                    try clear hfz64_6
                    try clear hfz64_7
                    try clear hfz66_0
                    try clear hfz66_1
                    try clear hfz66_2
                    try clear hfz66_3
                    try clear hfz66_4
                    try clear hfz66_5
                    try clear hfz66_6
                    try clear hfz66_7
                    try clear hfz68_0
                    try clear hfz68_1
                    try clear hfz68_2
                    try clear hfz68_3
                    try clear hfz68_4
                    try clear hfz68_5
                    try clear hfz68_6
                    try clear hfz68_7
                    try clear hfz75_0
                    try clear hfz75_1
                    try clear hfz75_2
                    try clear hfz75_3
                    try clear hfz75_4
                    try clear hfz75_5
                    try clear hfz75_6
                    try clear hfz75_7
                    try clear hfz77_0
                    try clear hfz77_1
                    try clear hfz77_2
                    try clear hfz77_3
                    try clear hfz77_4
                    try clear hfz77_5
                    try clear hfz77_6
                    try clear hfz77_7
                    try clear hfz79_0
                    try clear hfz79_1
                    try clear hfz79_2
                    try clear hfz79_3
                    try clear hfz79_4
                    try clear hfz79_5
                    try clear hfz79_6
                    try clear hfz79_7
                    try clear hfz82_0
                    try clear hfz82_1
                    try clear hfz82_2
                    try clear hfz82_3
                    try clear hfz82_4
                    try clear hfz82_5
                    try clear hfz82_6
                    try clear hfz82_7
                    try clear hfz84_0
                    try clear hfz84_1
                    try clear hfz84_2
                    try clear hfz84_3
                    try clear hfz84_4
                    try clear hfz84_5
                    try clear hfz84_6
                    try clear hfz84_7
                    try clear hfz85_0
                    try clear hfz85_1
                    try clear hfz85_2
                    try clear hfz85_3
                    try clear hfz85_4
                    try clear hfz85_5
                    try clear hfz85_6
                    try clear hfz85_7
                    try clear p2
                    obtain ⟨kq, x93_73, rfl, HA, HJ73, BK102, HB⟩ := hcut
                    cases kq with
                    | zero => exact absurd HA.out (by simp [asm_Print.j1])
                    | succ kj73 =>
                      have H := HA.out
                      clear HA
                      simp only [asm_Print.j1] at H
                      by_cases c86 : x93_73 = true
                      · subst c86
                        have H1 : ((asm_join.f t104 (([t105, t109, t106] : List ByteArray))).bind fun t137 => (some t137)) = some r := by rw [if_pos rfl] at H; exact H
                        clear H
                        have H := H1
                        clear H1
                        obtain ⟨y134, hy134⟩ : ∃ y_ : List ByteArray, y_ = (([t105, t109, t106] : List ByteArray)) := ⟨_, rfl⟩
                        replace H : ((asm_join.f t104 y134).bind fun t137 => (some t137)) = some r := by first | (rw [hy134]; with_reducible exact H) | (have H2_ := (Option.bind_some _ _).symm.trans H; rw [hy134]; with_reducible exact H2_) | (have H2_ := (Option.bind_some _ _).symm.trans H; with_reducible exact H2_) | with_reducible exact H | (rw [hy134]; exact H) | exact H
                        have Ny134 := Aside0.mk hy134
                        clear hy134
                        replace H := Option.bind_eq_some_iff.mp H
                        obtain ⟨t137, A870, H⟩ := H
                        replace H : (some t137) = some r := H
                        have A87 := Aside0.mk A870
                        clear A870
                        obtain rfl := Option.some.inj H
                        go_wp2_with (first | ((with_reducible refine gate_dst (N := 111) rfl ?_); refine Kd.R_lit Kd.string _ 9 ?hg (N := 111) ?hd (xs := ([t105, t109, t106] : List ByteArray)) (inner := [.string t105, .string t109, .string t106]) (ok := fun _ => True) (okp := fun _ => True) ?hr ?hp (fun _ hk => hk) trivial (Below.refl _ _) (Nat.le_refl _) (by simp) ?_; (case hd => rfl); (case hg => rfl); (case hr => first | (go_simp; done) | (go_simp; rfl)); (case hp => exact (Reps.one (show Kd.M Kd.string _ _ _ t105 [.string t105] from rfl) (Reps.one (show Kd.M Kd.string _ _ _ t109 [.string t109] from rfl) (Reps.one (show Kd.M Kd.string _ _ _ t106 [.string t106] from rfl) (Reps.none _ _))))); intro v135 w88 ho89 hb hg_ hnew_; clear hg_ hnew_; (first | rw [← Ny134.out] at ho89 | (simp only [Int.reduceToNat] at ho89; rw [← Ny134.out] at ho89)); have n0_ := Aside0.mk (Kd.R_lower ho89 (below_size (by repeat (first | (with_reducible first | exact HB.out | apply below_alloc | apply pw_below_drewN | apply below_drew1 | refine below_set ?_ GE102.out) | exact HB.out)))); have n1_ := Aside0.mk (blk_below (g := gb102) (o := .cells #[.int .i64 a0_0, .int .i64 a0_1, .int .i64 a0_2, .int .i64 a0_3, .int .i64 a0_4, .int .i64 a0_5, .bool a0_6, .bool a0_7] 24 (0, 0)) (by (with_reducible repeat (first | refine blk_drewN ?_ _ | refine blk_drew ?_ | refine blk_alloc ?_ _)); exact BK102.out) hb); have n2_ := Aside0.mk (below_step (by repeat (first | (with_reducible first | exact HB.out | apply below_alloc | apply pw_below_drewN | apply below_drew1 | refine below_set ?_ GE102.out) | exact HB.out)) hb); clear BK102; clear HB; have HO136 := n0_; have BK102 := n1_; have HB := n2_; clear n0_ n1_ n2_; clear hb ho89; obtain ⟨Ao90, co90, eo90⟩ := Kd.R_slice HO136.out; subst eo90) | ((with_reducible refine gate_callee (f := 35) rfl ?_); refine goesL_ (some 112) rfl rfl Tryd.func35 (by kernel_rfl) rfl #[.string t104, .slice Ao90 y134.length co90] rfl (by (try simp only [List.map_toArray, List.map_cons, List.map_nil]); first | done | rfl | (simp only [List.length_drop, List.length_take]; rfl)) ?_; (with_reducible refine (asm_join.calls t104 _ _ y134 t137 _ ?side1 ?side2 A87.out).mono ?_); (case side1 => repeat (first | exact (Kd.R_reads' HO136.out).2.2 | (with_reducible refine Kd.C_alloc ?_ _) | (with_reducible refine Kd.C_drewN ?_ _) | (with_reducible refine Kd.C_drew ?_))); (case side2 => exact (Kd.R_reads' HO136.out).2.1); rintro e w91 ⟨rfl, hb⟩; refine ⟨_, rfl, ?_⟩; have n0_ := Aside0.mk (Kd.R_below (by (with_reducible repeat (first | apply Kd.R_alloc | apply Kd.R_drewN | apply Kd.R_drew)); exact HO136.out) hb); have n1_ := Aside0.mk (blk_below (g := gb102) (o := .cells #[.int .i64 a0_0, .int .i64 a0_1, .int .i64 a0_2, .int .i64 a0_3, .int .i64 a0_4, .int .i64 a0_5, .bool a0_6, .bool a0_7] 24 (0, 0)) (by (with_reducible repeat (first | refine blk_drewN ?_ _ | refine blk_drew ?_ | refine blk_alloc ?_ _)); exact BK102.out) hb); have n2_ := Aside0.mk (below_step (by repeat (first | (with_reducible first | exact HB.out | apply below_alloc | apply pw_below_drewN | apply below_drew1 | refine below_set ?_ GE102.out) | exact HB.out)) hb); clear HO136; clear BK102; clear HB; have HO136 := n0_; have BK102 := n1_; have HB := n2_; clear n0_ n1_ n2_; (try clear hb); (try clear hb2); (try clear hk); (try clear hi)))
                        go_ret
                        exact ⟨by first | rfl | (simp [errW_none, errW_some] <;> rfl) | (simp [*, errW_none, errW_some] <;> rfl), by repeat (first | (with_reducible first | exact HB.out | apply below_alloc | apply pw_below_drewN | apply below_drew1 | refine below_set ?_ GE102.out) | exact HB.out)⟩
                      · replace c86 := Bool.eq_false_iff.mpr c86
                        subst c86
                        have H1 : ((inst_Systems.f a0_0).bind fun t138 => (if t138 = true then ((asm_join.f t104 (([t105, t109, t108] : List ByteArray))).bind fun t142 => (some t142)) else (if a0_0 = 73 then (asm_Print.j2 kj73 t104 t105 t106 t107 t108 true a0_0 a0_1 a0_2 a0_3 a0_4 a0_5 a0_6 a0_7) else (asm_Print.j2 kj73 t104 t105 t106 t107 t108 (a0_0 == 84) a0_0 a0_1 a0_2 a0_3 a0_4 a0_5 a0_6 a0_7)))) = some r := by rw [if_neg (show ¬ (false = true) by decide)] at H; exact H
                        clear H
                        have H := H1
                        clear H1
                        replace H := Option.bind_eq_some_iff.mp H
                        obtain ⟨t138, A920, H⟩ := H
                        replace H : (if t138 = true then ((asm_join.f t104 (([t105, t109, t108] : List ByteArray))).bind fun t142 => (some t142)) else (if a0_0 = 73 then (asm_Print.j2 kj73 t104 t105 t106 t107 t108 true a0_0 a0_1 a0_2 a0_3 a0_4 a0_5 a0_6 a0_7) else (asm_Print.j2 kj73 t104 t105 t106 t107 t108 (a0_0 == 84) a0_0 a0_1 a0_2 a0_3 a0_4 a0_5 a0_6 a0_7))) = some r := H
                        have A92 := Aside0.mk A920
                        clear A920
                        by_cases c93 : t138 = true
                        · subst c93
                          have H1 : ((asm_join.f t104 (([t105, t109, t108] : List ByteArray))).bind fun t142 => (some t142)) = some r := by rw [if_pos rfl] at H; exact H
                          clear H
                          have H := H1
                          clear H1
                          obtain ⟨y139, hy139⟩ : ∃ y_ : List ByteArray, y_ = (([t105, t109, t108] : List ByteArray)) := ⟨_, rfl⟩
                          replace H : ((asm_join.f t104 y139).bind fun t142 => (some t142)) = some r := by first | (rw [hy139]; with_reducible exact H) | (have H2_ := (Option.bind_some _ _).symm.trans H; rw [hy139]; with_reducible exact H2_) | (have H2_ := (Option.bind_some _ _).symm.trans H; with_reducible exact H2_) | with_reducible exact H | (rw [hy139]; exact H) | exact H
                          have Ny139 := Aside0.mk hy139
                          clear hy139
                          replace H := Option.bind_eq_some_iff.mp H
                          obtain ⟨t142, A940, H⟩ := H
                          replace H : (some t142) = some r := H
                          have A94 := Aside0.mk A940
                          clear A940
                          obtain rfl := Option.some.inj H
                          have hcz95_0 : wc.cell? ⟨gb102, 0, none⟩ = some (.int .i64 a0_0) := (blk_cell BK102.out 0).trans rfl
                          have hcz95_1 : wc.cell? ⟨gb102, 1, none⟩ = some (.int .i64 a0_1) := (blk_cell BK102.out 1).trans rfl
                          have hcz95_2 : wc.cell? ⟨gb102, 2, none⟩ = some (.int .i64 a0_2) := (blk_cell BK102.out 2).trans rfl
                          have hcz95_3 : wc.cell? ⟨gb102, 3, none⟩ = some (.int .i64 a0_3) := (blk_cell BK102.out 3).trans rfl
                          have hcz95_4 : wc.cell? ⟨gb102, 4, none⟩ = some (.int .i64 a0_4) := (blk_cell BK102.out 4).trans rfl
                          have hcz95_5 : wc.cell? ⟨gb102, 5, none⟩ = some (.int .i64 a0_5) := (blk_cell BK102.out 5).trans rfl
                          have hcz95_6 : wc.cell? ⟨gb102, 6, none⟩ = some (.bool a0_6) := (blk_cell BK102.out 6).trans rfl
                          have hcz95_7 : wc.cell? ⟨gb102, 7, none⟩ = some (.bool a0_7) := (blk_cell BK102.out 7).trans rfl
                          have hfz95_0 := blk_frozen BK102.out 0
                          have hfz95_1 := blk_frozen BK102.out 1
                          have hfz95_2 := blk_frozen BK102.out 2
                          have hfz95_3 := blk_frozen BK102.out 3
                          have hfz95_4 := blk_frozen BK102.out 4
                          have hfz95_5 := blk_frozen BK102.out 5
                          have hfz95_6 := blk_frozen BK102.out 6
                          have hfz95_7 := blk_frozen BK102.out 7
                          go_wp2_with (first | ((with_reducible refine gate_callee (f := 39) rfl ?_); refine goesL_ (some 116) rfl rfl Tryd.func39 (by kernel_rfl) rfl #[.int .i64 a0_0] rfl (by (try simp only [List.map_toArray, List.map_cons, List.map_nil]); first | done | rfl | (simp only [List.length_drop, List.length_take]; rfl)) ?_; (with_reducible refine (inst_Systems.calls a0_0 true _ A92.out).mono ?_); rintro e w96 ⟨rfl, hb⟩; refine ⟨_, rfl, ?_⟩; have n0_ := Aside0.mk (blk_below (g := gb102) (o := .cells #[.int .i64 a0_0, .int .i64 a0_1, .int .i64 a0_2, .int .i64 a0_3, .int .i64 a0_4, .int .i64 a0_5, .bool a0_6, .bool a0_7] 24 (0, 0)) (by (with_reducible repeat (first | refine blk_drewN ?_ _ | refine blk_drew ?_ | refine blk_alloc ?_ _)); exact BK102.out) hb); have n1_ := Aside0.mk (below_step (by repeat (first | (with_reducible first | exact HB.out | apply below_alloc | apply pw_below_drewN | apply below_drew1 | refine below_set ?_ GE102.out) | exact HB.out)) hb); clear BK102; clear HB; have BK102 := n0_; have HB := n1_; clear n0_ n1_; (try clear hb); (try clear hb2); (try clear hk); (try clear hi)) | ((with_reducible refine gate_dst (N := 121) rfl ?_); refine Kd.R_lit Kd.string _ 9 ?hg (N := 121) ?hd (xs := ([t105, t109, t108] : List ByteArray)) (inner := [.string t105, .string t109, .string t108]) (ok := fun _ => True) (okp := fun _ => True) ?hr ?hp (fun _ hk => hk) trivial (Below.refl _ _) (Nat.le_refl _) (by simp) ?_; (case hd => rfl); (case hg => rfl); (case hr => first | (go_simp; done) | (go_simp; rfl)); (case hp => exact (Reps.one (show Kd.M Kd.string _ _ _ t105 [.string t105] from rfl) (Reps.one (show Kd.M Kd.string _ _ _ t109 [.string t109] from rfl) (Reps.one (show Kd.M Kd.string _ _ _ t108 [.string t108] from rfl) (Reps.none _ _))))); intro v140 w97 ho98 hb hg_ hnew_; clear hg_ hnew_; (first | rw [← Ny139.out] at ho98 | (simp only [Int.reduceToNat] at ho98; rw [← Ny139.out] at ho98)); have n0_ := Aside0.mk (Kd.R_lower ho98 (below_size (by repeat (first | (with_reducible first | exact HB.out | apply below_alloc | apply pw_below_drewN | apply below_drew1 | refine below_set ?_ GE102.out) | exact HB.out)))); have n1_ := Aside0.mk (blk_below (g := gb102) (o := .cells #[.int .i64 a0_0, .int .i64 a0_1, .int .i64 a0_2, .int .i64 a0_3, .int .i64 a0_4, .int .i64 a0_5, .bool a0_6, .bool a0_7] 24 (0, 0)) (by (with_reducible repeat (first | refine blk_drewN ?_ _ | refine blk_drew ?_ | refine blk_alloc ?_ _)); exact BK102.out) hb); have n2_ := Aside0.mk (below_step (by repeat (first | (with_reducible first | exact HB.out | apply below_alloc | apply pw_below_drewN | apply below_drew1 | refine below_set ?_ GE102.out) | exact HB.out)) hb); clear BK102; clear HB; have HO141 := n0_; have BK102 := n1_; have HB := n2_; clear n0_ n1_ n2_; clear hb ho98; obtain ⟨Ao99, co99, eo99⟩ := Kd.R_slice HO141.out; subst eo99) | ((with_reducible refine gate_callee (f := 35) rfl ?_); refine goesL_ (some 122) rfl rfl Tryd.func35 (by kernel_rfl) rfl #[.string t104, .slice Ao99 y139.length co99] rfl (by (try simp only [List.map_toArray, List.map_cons, List.map_nil]); first | done | rfl | (simp only [List.length_drop, List.length_take]; rfl)) ?_; (with_reducible refine (asm_join.calls t104 _ _ y139 t142 _ ?side1 ?side2 A94.out).mono ?_); (case side1 => repeat (first | exact (Kd.R_reads' HO141.out).2.2 | (with_reducible refine Kd.C_alloc ?_ _) | (with_reducible refine Kd.C_drewN ?_ _) | (with_reducible refine Kd.C_drew ?_))); (case side2 => exact (Kd.R_reads' HO141.out).2.1); rintro e w100 ⟨rfl, hb⟩; refine ⟨_, rfl, ?_⟩; have n0_ := Aside0.mk (Kd.R_below (by (with_reducible repeat (first | apply Kd.R_alloc | apply Kd.R_drewN | apply Kd.R_drew)); exact HO141.out) hb); have n1_ := Aside0.mk (blk_below (g := gb102) (o := .cells #[.int .i64 a0_0, .int .i64 a0_1, .int .i64 a0_2, .int .i64 a0_3, .int .i64 a0_4, .int .i64 a0_5, .bool a0_6, .bool a0_7] 24 (0, 0)) (by (with_reducible repeat (first | refine blk_drewN ?_ _ | refine blk_drew ?_ | refine blk_alloc ?_ _)); exact BK102.out) hb); have n2_ := Aside0.mk (below_step (by repeat (first | (with_reducible first | exact HB.out | apply below_alloc | apply pw_below_drewN | apply below_drew1 | refine below_set ?_ GE102.out) | exact HB.out)) hb); clear HO141; clear BK102; clear HB; have HO141 := n0_; have BK102 := n1_; have HB := n2_; clear n0_ n1_ n2_; (try clear hb); (try clear hb2); (try clear hk); (try clear hi)))
                          go_ret
                          exact ⟨by first | rfl | (simp [errW_none, errW_some] <;> rfl) | (simp [*, errW_none, errW_some] <;> rfl), by repeat (first | (with_reducible first | exact HB.out | apply below_alloc | apply pw_below_drewN | apply below_drew1 | refine below_set ?_ GE102.out) | exact HB.out)⟩
                        · replace c93 := Bool.eq_false_iff.mpr c93
                          subst c93
                          have H1 : (if a0_0 = 73 then (asm_Print.j2 kj73 t104 t105 t106 t107 t108 true a0_0 a0_1 a0_2 a0_3 a0_4 a0_5 a0_6 a0_7) else (asm_Print.j2 kj73 t104 t105 t106 t107 t108 (a0_0 == 84) a0_0 a0_1 a0_2 a0_3 a0_4 a0_5 a0_6 a0_7)) = some r := by rw [if_neg (show ¬ (false = true) by decide)] at H; exact H
                          clear H
                          have H := H1
                          clear H1
                          have HC101 := Aside0.mk H
                          clear H
                          have hcz102_0 : wc.cell? ⟨gb102, 0, none⟩ = some (.int .i64 a0_0) := (blk_cell BK102.out 0).trans rfl
                          have hcz102_1 : wc.cell? ⟨gb102, 1, none⟩ = some (.int .i64 a0_1) := (blk_cell BK102.out 1).trans rfl
                          have hcz102_2 : wc.cell? ⟨gb102, 2, none⟩ = some (.int .i64 a0_2) := (blk_cell BK102.out 2).trans rfl
                          have hcz102_3 : wc.cell? ⟨gb102, 3, none⟩ = some (.int .i64 a0_3) := (blk_cell BK102.out 3).trans rfl
                          have hcz102_4 : wc.cell? ⟨gb102, 4, none⟩ = some (.int .i64 a0_4) := (blk_cell BK102.out 4).trans rfl
                          have hcz102_5 : wc.cell? ⟨gb102, 5, none⟩ = some (.int .i64 a0_5) := (blk_cell BK102.out 5).trans rfl
                          have hcz102_6 : wc.cell? ⟨gb102, 6, none⟩ = some (.bool a0_6) := (blk_cell BK102.out 6).trans rfl
                          have hcz102_7 : wc.cell? ⟨gb102, 7, none⟩ = some (.bool a0_7) := (blk_cell BK102.out 7).trans rfl
                          have hfz102_0 := blk_frozen BK102.out 0
                          have hfz102_1 := blk_frozen BK102.out 1
                          have hfz102_2 := blk_frozen BK102.out 2
                          have hfz102_3 := blk_frozen BK102.out 3
                          have hfz102_4 := blk_frozen BK102.out 4
                          have hfz102_5 := blk_frozen BK102.out 5
                          have hfz102_6 := blk_frozen BK102.out 6
                          have hfz102_7 := blk_frozen BK102.out 7
                          go_upto_region 19 with (first | ((with_reducible refine gate_callee (f := 39) rfl ?_); refine goesL_ (some 116) rfl rfl Tryd.func39 (by kernel_rfl) rfl #[.int .i64 a0_0] rfl (by (try simp only [List.map_toArray, List.map_cons, List.map_nil]); first | done | rfl | (simp only [List.length_drop, List.length_take]; rfl)) ?_; (with_reducible refine (inst_Systems.calls a0_0 false _ A92.out).mono ?_); rintro e w103 ⟨rfl, hb⟩; refine ⟨_, rfl, ?_⟩; have n0_ := Aside0.mk (blk_below (g := gb102) (o := .cells #[.int .i64 a0_0, .int .i64 a0_1, .int .i64 a0_2, .int .i64 a0_3, .int .i64 a0_4, .int .i64 a0_5, .bool a0_6, .bool a0_7] 24 (0, 0)) (by (with_reducible repeat (first | refine blk_drewN ?_ _ | refine blk_drew ?_ | refine blk_alloc ?_ _)); exact BK102.out) hb); have n1_ := Aside0.mk (below_step (by repeat (first | (with_reducible first | exact HB.out | apply below_alloc | apply pw_below_drewN | apply below_drew1 | refine below_set ?_ GE102.out) | exact HB.out)) hb); clear BK102; clear HB; have BK102 := n0_; have HB := n1_; clear n0_ n1_; (try clear hb); (try clear hb2); (try clear hk); (try clear hi)))
                          (try simp only [Act.put, List.setIfInBounds_toArray, List.set_cons_zero, List.set_cons_succ])
                          go_cut [123] (fun v123 wc => ∃ (kq : Nat) (x123_100 : Bool), v123 = .bool x123_100 ∧ Aside0 (asm_Print.j2 kq t104 t105 t106 t107 t108 x123_100 a0_0 a0_1 a0_2 a0_3 a0_4 a0_5 a0_6 a0_7 = some r) ∧ Aside0 (kq ≤ kj73) ∧ Aside0 (wc.heap[gb102]? = some (.cells #[.int .i64 a0_0, .int .i64 a0_1, .int .i64 a0_2, .int .i64 a0_3, .int .i64 a0_4, .int .i64 a0_5, .bool a0_6, .bool a0_7] 24 (0, 0))) ∧ Aside0 (Below w.heap.size w wc))
                          case first => as_aux_lemma =>
                            have H := HC101.out
                            clear HC101
                            by_cases c104 : a0_0 = 73
                            · as_aux_lemma =>
                              rw [if_pos c104] at H
                              have c104b0 : (a0_0 == 73) = true := beq_iff_eq.mpr c104
                              have c104b1 : (a0_0 != 73) = false := bne_eq_false_iff_eq.mpr c104
                              clear c104
                              (first | rw [c104b0] | (simp only [i64_w, i32_w]; rw [c104b0]) | skip)
                              have H' := Aside0.mk H
                              clear H
                              have hcz105_0 : w103.cell? ⟨gb102, 0, none⟩ = some (.int .i64 a0_0) := (blk_cell BK102.out 0).trans rfl
                              have hcz105_1 : w103.cell? ⟨gb102, 1, none⟩ = some (.int .i64 a0_1) := (blk_cell BK102.out 1).trans rfl
                              have hcz105_2 : w103.cell? ⟨gb102, 2, none⟩ = some (.int .i64 a0_2) := (blk_cell BK102.out 2).trans rfl
                              have hcz105_3 : w103.cell? ⟨gb102, 3, none⟩ = some (.int .i64 a0_3) := (blk_cell BK102.out 3).trans rfl
                              have hcz105_4 : w103.cell? ⟨gb102, 4, none⟩ = some (.int .i64 a0_4) := (blk_cell BK102.out 4).trans rfl
                              have hcz105_5 : w103.cell? ⟨gb102, 5, none⟩ = some (.int .i64 a0_5) := (blk_cell BK102.out 5).trans rfl
                              have hcz105_6 : w103.cell? ⟨gb102, 6, none⟩ = some (.bool a0_6) := (blk_cell BK102.out 6).trans rfl
                              have hcz105_7 : w103.cell? ⟨gb102, 7, none⟩ = some (.bool a0_7) := (blk_cell BK102.out 7).trans rfl
                              have hfz105_0 := blk_frozen BK102.out 0
                              have hfz105_1 := blk_frozen BK102.out 1
                              have hfz105_2 := blk_frozen BK102.out 2
                              have hfz105_3 := blk_frozen BK102.out 3
                              have hfz105_4 := blk_frozen BK102.out 4
                              have hfz105_5 := blk_frozen BK102.out 5
                              have hfz105_6 := blk_frozen BK102.out 6
                              have hfz105_7 := blk_frozen BK102.out 7
                              go_wp2
                              go_meet
                              case rel => exact ⟨_, (true), (by first | rfl | (simp; done) | (simp [*]; done)), H', ⟨by have := HJ9.out; have := HJ73.out; first | omega | exact Nat.le_refl _⟩, ⟨by (with_reducible repeat (first | refine blk_drewN ?_ _ | refine blk_drew ?_ | refine blk_alloc ?_ _)); exact BK102.out⟩, ⟨by repeat (first | (with_reducible first | exact HB.out | apply below_alloc | apply pw_below_drewN | apply below_drew1 | refine below_set ?_ GE102.out) | exact HB.out)⟩⟩
                            · as_aux_lemma =>
                              rw [if_neg c104] at H
                              have c104b0 : (a0_0 == 73) = false := beq_eq_false_iff_ne.mpr c104
                              have c104b1 : (a0_0 != 73) = true := bne_iff_ne.mpr c104
                              (first | rw [c104b0] | (simp only [i64_w, i32_w]; rw [c104b0]) | skip)
                              have H' := Aside0.mk H
                              clear H
                              have hcz106_0 : w103.cell? ⟨gb102, 0, none⟩ = some (.int .i64 a0_0) := (blk_cell BK102.out 0).trans rfl
                              have hcz106_1 : w103.cell? ⟨gb102, 1, none⟩ = some (.int .i64 a0_1) := (blk_cell BK102.out 1).trans rfl
                              have hcz106_2 : w103.cell? ⟨gb102, 2, none⟩ = some (.int .i64 a0_2) := (blk_cell BK102.out 2).trans rfl
                              have hcz106_3 : w103.cell? ⟨gb102, 3, none⟩ = some (.int .i64 a0_3) := (blk_cell BK102.out 3).trans rfl
                              have hcz106_4 : w103.cell? ⟨gb102, 4, none⟩ = some (.int .i64 a0_4) := (blk_cell BK102.out 4).trans rfl
                              have hcz106_5 : w103.cell? ⟨gb102, 5, none⟩ = some (.int .i64 a0_5) := (blk_cell BK102.out 5).trans rfl
                              have hcz106_6 : w103.cell? ⟨gb102, 6, none⟩ = some (.bool a0_6) := (blk_cell BK102.out 6).trans rfl
                              have hcz106_7 : w103.cell? ⟨gb102, 7, none⟩ = some (.bool a0_7) := (blk_cell BK102.out 7).trans rfl
                              have hfz106_0 := blk_frozen BK102.out 0
                              have hfz106_1 := blk_frozen BK102.out 1
                              have hfz106_2 := blk_frozen BK102.out 2
                              have hfz106_3 := blk_frozen BK102.out 3
                              have hfz106_4 := blk_frozen BK102.out 4
                              have hfz106_5 := blk_frozen BK102.out 5
                              have hfz106_6 := blk_frozen BK102.out 6
                              have hfz106_7 := blk_frozen BK102.out 7
                              go_wp2
                              go_meet
                              case rel => exact ⟨_, ((a0_0 == 84)), (by first | rfl | (simp; done) | (simp [*]; done)), H', ⟨by have := HJ9.out; have := HJ73.out; first | omega | exact Nat.le_refl _⟩, ⟨by (with_reducible repeat (first | refine blk_drewN ?_ _ | refine blk_drew ?_ | refine blk_alloc ?_ _)); exact BK102.out⟩, ⟨by repeat (first | (with_reducible first | exact HB.out | apply below_alloc | apply pw_below_drewN | apply below_drew1 | refine below_set ?_ GE102.out) | exact HB.out)⟩⟩
                          case rest => as_aux_lemma =>
                            clear HC101
                            try clear c1
                            try clear c2
                            try clear p2
                            try clear c3
                            try clear c3b0
                            try clear c3b1
                            try clear c4
                            try clear c5
                            try clear c6
                            try clear p6
                            try clear c8
                            try clear c9
                            try clear c10
                            try clear c11
                            try clear c17
                            try clear c17b0
                            try clear c17b1
                            try clear c20
                            try clear c22
                            try clear c28
                            try clear c28b0
                            try clear c28b1
                            try clear c33
                            try clear c34
                            try clear c35
                            try clear c36
                            try clear c37
                            try clear c37b0
                            try clear c37b1
                            try clear c37b2
                            try clear c38
                            try clear c38b0
                            try clear c38b1
                            try clear c38b2
                            try clear c39
                            try clear c39b0
                            try clear c39b1
                            try clear c39b2
                            try clear c48
                            try clear c49
                            try clear c49b0
                            try clear c49b1
                            try clear c49b2
                            try clear c50
                            try clear c50b0
                            try clear c50b1
                            try clear c50b2
                            try clear c51
                            try clear c51b0
                            try clear c51b1
                            try clear c51b2
                            try clear c62
                            try clear p64
                            try clear c81
                            try clear c81b0
                            try clear c81b1
                            try clear c83
                            try clear c83b0
                            try clear c83b1
                            try clear c86
                            try clear c93
                            try clear c104
                            try clear c104b0
                            try clear c104b1
                            try clear hcz102_0
                            try clear hcz102_1
                            try clear hcz102_2
                            try clear hcz102_3
                            try clear hcz102_4
                            try clear hcz102_5
                            try clear hcz102_6
                            try clear hcz102_7
                            try clear hcz105_0
                            try clear hcz105_1
                            try clear hcz105_2
                            try clear hcz105_3
                            try clear hcz105_4
                            try clear hcz105_5
                            try clear hcz105_6
                            try clear hcz105_7
                            try clear hcz106_0
                            try clear hcz106_1
                            try clear hcz106_2
                            try clear hcz106_3
                            try clear hcz106_4
                            try clear hcz106_5
                            try clear hcz106_6
                            try clear hcz106_7
                            try clear hcz12_0
                            try clear hcz12_1
                            try clear hcz12_2
                            try clear hcz12_3
                            try clear hcz12_4
                            try clear hcz12_5
                            try clear hcz12_6
                            try clear hcz12_7
                            try clear hcz16_0
                            try clear hcz16_1
                            try clear hcz16_2
                            try clear hcz16_3
                            try clear hcz16_4
                            try clear hcz16_5
                            try clear hcz16_6
                            try clear hcz16_7
                            try clear hcz18_0
                            try clear hcz18_1
                            try clear hcz18_2
                            try clear hcz18_3
                            try clear hcz18_4
                            try clear hcz18_5
                            try clear hcz18_6
                            try clear hcz18_7
                            try clear hcz19_0
                            try clear hcz19_1
                            try clear hcz19_2
                            try clear hcz19_3
                            try clear hcz19_4
                            try clear hcz19_5
                            try clear hcz19_6
                            try clear hcz19_7
                            try clear hcz23_0
                            try clear hcz23_1
                            try clear hcz23_2
                            try clear hcz23_3
                            try clear hcz23_4
                            try clear hcz23_5
                            try clear hcz23_6
                            try clear hcz23_7
                            try clear hcz30_0
                            try clear hcz30_1
                            try clear hcz30_2
                            try clear hcz30_3
                            try clear hcz30_4
                            try clear hcz30_5
                            try clear hcz30_6
                            try clear hcz30_7
                            try clear hcz41_0
                            try clear hcz41_1
                            try clear hcz41_2
                            try clear hcz41_3
                            try clear hcz41_4
                            try clear hcz41_5
                            try clear hcz41_6
                            try clear hcz41_7
                            try clear hcz53_0
                            try clear hcz53_1
                            try clear hcz53_2
                            try clear hcz53_3
                            try clear hcz53_4
                            try clear hcz53_5
                            try clear hcz53_6
                            try clear hcz53_7
                            try clear hcz55_0
                            try clear hcz55_1
                            try clear hcz55_2
                            try clear hcz55_3
                            try clear hcz55_4
                            try clear hcz55_5
                            try clear hcz55_6
                            try clear hcz55_7
                            try clear hcz64_0
                            try clear hcz64_1
                            try clear hcz64_2
                            try clear hcz64_3
                            try clear hcz64_4
                            try clear hcz64_5
                            try clear hcz64_6
                            try clear hcz64_7
                            try clear hcz66_0
                            try clear hcz66_1
                            try clear hcz66_2
                            try clear hcz66_3
                            try clear hcz66_4
                            try clear hcz66_5
                            try clear hcz66_6
                            try clear hcz66_7
                            try clear hcz68_0
                            try clear hcz68_1
                            try clear hcz68_2
                            try clear hcz68_3
                            try clear hcz68_4
                            try clear hcz68_5
                            try clear hcz68_6
                            try clear hcz68_7
                            try clear hcz75_0
                            try clear hcz75_1
                            try clear hcz75_2
                            try clear hcz75_3
                            try clear hcz75_4
                            try clear hcz75_5
                            try clear hcz75_6
                            try clear hcz75_7
                            try clear hcz77_0
                            try clear hcz77_1
                            try clear hcz77_2
                            try clear hcz77_3
                            try clear hcz77_4
                            try clear hcz77_5
                            try clear hcz77_6
                            try clear hcz77_7
                            try clear hcz79_0
                            try clear hcz79_1
                            try clear hcz79_2
                            try clear hcz79_3
                            try clear hcz79_4
                            try clear hcz79_5
                            try clear hcz79_6
                            try clear hcz79_7
                            try clear hcz82_0
                            try clear hcz82_1
                            try clear hcz82_2
                            try clear hcz82_3
                            try clear hcz82_4
                            try clear hcz82_5
                            try clear hcz82_6
                            try clear hcz82_7
                            try clear hcz84_0
                            try clear hcz84_1
                            try clear hcz84_2
                            try clear hcz84_3
                            try clear hcz84_4
                            try clear hcz84_5
                            try clear hcz84_6
                            try clear hcz84_7
                            try clear hcz85_0
                            try clear hcz85_1
                            try clear hcz85_2
                            try clear hcz85_3
                            try clear hcz85_4
                            try clear hcz85_5
                            try clear hcz85_6
                            try clear hcz85_7
                            try clear hcz95_0
                            try clear hcz95_1
                            try clear hcz95_2
                            try clear hcz95_3
                            try clear hcz95_4
                            try clear hcz95_5
                            try clear hcz95_6
                            try clear hcz95_7
                            try clear hfz102_0
                            try clear hfz102_1
                            try clear hfz102_2
                            try clear hfz102_3
                            try clear hfz102_4
                            try clear hfz102_5
                            try clear hfz102_6
                            try clear hfz102_7
                            try clear hfz105_0
                            try clear hfz105_1
                            try clear hfz105_2
                            try clear hfz105_3
                            try clear hfz105_4
                            try clear hfz105_5
                            try clear hfz105_6
                            try clear hfz105_7
                            try clear hfz106_0
                            try clear hfz106_1
                            try clear hfz106_2
                            try clear hfz106_3
                            try clear hfz106_4
                            try clear hfz106_5
                            try clear hfz106_6
                            try clear hfz106_7
                            try clear hfz12_0
                            try clear hfz12_1
                            try clear hfz12_2
                            try clear hfz12_3
                            try clear hfz12_4
                            try clear hfz12_5
                            try clear hfz12_6
                            try clear hfz12_7
                            try clear hfz16_0
                            try clear hfz16_1
                            try clear hfz16_2
                            try clear hfz16_3
                            try clear hfz16_4
                            try clear hfz16_5
                            try clear hfz16_6
                            try clear hfz16_7
                            try clear hfz18_0
                            try clear hfz18_1
                            try clear hfz18_2
                            try clear hfz18_3
                            try clear hfz18_4
                            try clear hfz18_5
                            try clear hfz18_6
                            try clear hfz18_7
                            try clear hfz19_0
                            try clear hfz19_1
                            try clear hfz19_2
                            try clear hfz19_3
                            try clear hfz19_4
                            try clear hfz19_5
                            try clear hfz19_6
                            try clear hfz19_7
                            try clear hfz23_0
                            try clear hfz23_1
                            try clear hfz23_2
                            try clear hfz23_3
                            try clear hfz23_4
                            try clear hfz23_5
                            try clear hfz23_6
                            try clear hfz23_7
                            try clear hfz30_0
                            try clear hfz30_1
                            try clear hfz30_2
                            try clear hfz30_3
                            try clear hfz30_4
                            try clear hfz30_5
                            try clear hfz30_6
                            try clear hfz30_7
                            try clear hfz41_0
                            try clear hfz41_1
                            try clear hfz41_2
                            try clear hfz41_3
                            try clear hfz41_4
                            try clear hfz41_5
                            try clear hfz41_6
                            try clear hfz41_7
                            try clear hfz53_0
                            try clear hfz53_1
                            try clear hfz53_2
                            try clear hfz53_3
                            try clear hfz53_4
                            try clear hfz53_5
                            try clear hfz53_6
                            try clear hfz53_7
                            try clear hfz55_0
                            try clear hfz55_1
                            try clear hfz55_2
                            try clear hfz55_3
                            try clear hfz55_4
                            try clear hfz55_5
                            try clear hfz55_6
                            try clear hfz55_7
                            try clear hfz64_0
                            try clear hfz64_1
                            try clear hfz64_2
                            try clear hfz64_3
                            try clear hfz64_4
                            try clear hfz64_5
                            try clear hfz64_6
                            try clear hfz64_7
                            try clear hfz66_0
                            try clear hfz66_1
                            try clear hfz66_2
                            try clear hfz66_3
                            try clear hfz66_4
                            try clear hfz66_5
                            try clear hfz66_6
                            try clear hfz66_7
                            try clear hfz68_0
                            try clear hfz68_1
                            try clear hfz68_2
                            try clear hfz68_3
                            try clear hfz68_4
                            try clear hfz68_5
                            try clear hfz68_6
                            try clear hfz68_7
                            try clear hfz75_0
                            try clear hfz75_1
                            try clear hfz75_2
                            try clear hfz75_3
                            try clear hfz75_4
                            try clear hfz75_5
                            try clear hfz75_6
                            try clear hfz75_7
                            try clear hfz77_0
                            try clear hfz77_1
                            try clear hfz77_2
                            try clear hfz77_3
                            try clear hfz77_4
                            try clear hfz77_5
                            try clear hfz77_6
                            try clear hfz77_7
                            try clear hfz79_0
                            try clear hfz79_1
                            try clear hfz79_2
                            try clear hfz79_3
                            try clear hfz79_4
                            try clear hfz79_5
                            try clear hfz79_6
                            try clear hfz79_7
                            try clear hfz82_0
                            try clear hfz82_1
                            try clear hfz82_2
                            try clear hfz82_3
                            try clear hfz82_4
                            try clear hfz82_5
                            try clear hfz82_6
                            try clear hfz82_7
                            try clear hfz84_0
                            try clear hfz84_1
                            try clear hfz84_2
                            try clear hfz84_3
                            try clear hfz84_4
                            try clear hfz84_5
                            try clear hfz84_6
                            try clear hfz84_7
                            try clear hfz85_0
                            try clear hfz85_1
                            try clear hfz85_2
                            try clear hfz85_3
                            try clear hfz85_4
                            try clear hfz85_5
                            try clear hfz85_6
                            try clear hfz85_7
                            try clear hfz95_0
                            try clear hfz95_1
                            try clear hfz95_2
                            try clear hfz95_3
                            try clear hfz95_4
                            try clear hfz95_5
                            try clear hfz95_6
                            try clear hfz95_7
                            try clear p2
                            try clear p6
                            try clear p64
                            obtain ⟨kq, x123_100, rfl, HA, HJ100, BK102, HB⟩ := hcut
                            cases kq with
                            | zero => exact absurd HA.out (by simp [asm_Print.j2])
                            | succ kj100 =>
                              have H := HA.out
                              clear HA
                              simp only [asm_Print.j2] at H
                              by_cases c107 : x123_100 = true
                              · subst c107
                                have H1 : ((asm_suffix.f a0_0 a0_1 a0_2 a0_3 a0_4 a0_5 a0_6 a0_7).bind fun t143 => (if t104.size + t143.size ≤ 9223372036854775807 then (if 1 + t106.size ≤ 9223372036854775807 then (if ((⟨#[40]⟩ : ByteArray) ++ t106).size + 1 ≤ 9223372036854775807 then ((asm_join.f (t104 ++ t143) (([t105, ((⟨#[40]⟩ : ByteArray) ++ t106) ++ (⟨#[41]⟩ : ByteArray)] : List ByteArray))).bind fun t147 => (some t147)) else (none)) else (none)) else (none))) = some r := by rw [if_pos rfl] at H; exact H
                                clear H
                                have H := H1
                                clear H1
                                replace H := Option.bind_eq_some_iff.mp H
                                obtain ⟨t143, A1080, H⟩ := H
                                replace H : (if t104.size + t143.size ≤ 9223372036854775807 then (if 1 + t106.size ≤ 9223372036854775807 then (if ((⟨#[40]⟩ : ByteArray) ++ t106).size + 1 ≤ 9223372036854775807 then ((asm_join.f (t104 ++ t143) (([t105, ((⟨#[40]⟩ : ByteArray) ++ t106) ++ (⟨#[41]⟩ : ByteArray)] : List ByteArray))).bind fun t147 => (some t147)) else (none)) else (none)) else (none)) = some r := H
                                have A108 := Aside0.mk A1080
                                clear A1080
                                by_cases c109 : t104.size + t143.size ≤ 9223372036854775807
                                · as_aux_lemma =>
                                  rw [if_pos c109] at H
                                  have c109b0 := eq_true c109
                                  have c109b1 : decide (t104.size + t143.size ≤ 9223372036854775807) = true := decide_eq_true c109
                                  try have c109b2 : (9223372036854775807 < t104.size + t143.size) = False := eq_false (Nat.not_lt.2 c109)
                                  by_cases c110 : 1 + t106.size ≤ 9223372036854775807
                                  · as_aux_lemma =>
                                    rw [if_pos c110] at H
                                    have c110b0 := eq_true c110
                                    have c110b1 : decide (1 + t106.size ≤ 9223372036854775807) = true := decide_eq_true c110
                                    try have c110b2 : (9223372036854775807 < 1 + t106.size) = False := eq_false (Nat.not_lt.2 c110)
                                    by_cases c111 : ((⟨#[40]⟩ : ByteArray) ++ t106).size + 1 ≤ 9223372036854775807
                                    · as_aux_lemma =>
                                      rw [if_pos c111] at H
                                      have c111b0 := eq_true c111
                                      have c111b1 : decide (((⟨#[40]⟩ : ByteArray) ++ t106).size + 1 ≤ 9223372036854775807) = true := decide_eq_true c111
                                      try have c111b3 : (9223372036854775807 < 1 + t106.size + 1) = False := eq_false (Nat.not_lt.2 (by have h_ := c111; simp only [ByteArray.size_append] at h_; exact h_))
                                      try have c111b2 : (9223372036854775807 < ((⟨#[40]⟩ : ByteArray) ++ t106).size + 1) = False := eq_false (Nat.not_lt.2 c111)
                                      obtain ⟨y144, hy144⟩ : ∃ y_ : List ByteArray, y_ = (([t105, ((⟨#[40]⟩ : ByteArray) ++ t106) ++ (⟨#[41]⟩ : ByteArray)] : List ByteArray)) := ⟨_, rfl⟩
                                      replace H : ((asm_join.f (t104 ++ t143) y144).bind fun t147 => (some t147)) = some r := by first | (rw [hy144]; with_reducible exact H) | (have H2_ := (Option.bind_some _ _).symm.trans H; rw [hy144]; with_reducible exact H2_) | (have H2_ := (Option.bind_some _ _).symm.trans H; with_reducible exact H2_) | with_reducible exact H | (rw [hy144]; exact H) | exact H
                                      have Ny144 := Aside0.mk hy144
                                      clear hy144
                                      replace H := Option.bind_eq_some_iff.mp H
                                      obtain ⟨t147, A1120, H⟩ := H
                                      replace H : (some t147) = some r := H
                                      have A112 := Aside0.mk A1120
                                      clear A1120
                                      obtain rfl := Option.some.inj H
                                      have hcz113_0 : wc.cell? ⟨gb102, 0, none⟩ = some (.int .i64 a0_0) := (blk_cell BK102.out 0).trans rfl
                                      have hcz113_1 : wc.cell? ⟨gb102, 1, none⟩ = some (.int .i64 a0_1) := (blk_cell BK102.out 1).trans rfl
                                      have hcz113_2 : wc.cell? ⟨gb102, 2, none⟩ = some (.int .i64 a0_2) := (blk_cell BK102.out 2).trans rfl
                                      have hcz113_3 : wc.cell? ⟨gb102, 3, none⟩ = some (.int .i64 a0_3) := (blk_cell BK102.out 3).trans rfl
                                      have hcz113_4 : wc.cell? ⟨gb102, 4, none⟩ = some (.int .i64 a0_4) := (blk_cell BK102.out 4).trans rfl
                                      have hcz113_5 : wc.cell? ⟨gb102, 5, none⟩ = some (.int .i64 a0_5) := (blk_cell BK102.out 5).trans rfl
                                      have hcz113_6 : wc.cell? ⟨gb102, 6, none⟩ = some (.bool a0_6) := (blk_cell BK102.out 6).trans rfl
                                      have hcz113_7 : wc.cell? ⟨gb102, 7, none⟩ = some (.bool a0_7) := (blk_cell BK102.out 7).trans rfl
                                      have hfz113_0 := blk_frozen BK102.out 0
                                      have hfz113_1 := blk_frozen BK102.out 1
                                      have hfz113_2 := blk_frozen BK102.out 2
                                      have hfz113_3 := blk_frozen BK102.out 3
                                      have hfz113_4 := blk_frozen BK102.out 4
                                      have hfz113_5 := blk_frozen BK102.out 5
                                      have hfz113_6 := blk_frozen BK102.out 6
                                      have hfz113_7 := blk_frozen BK102.out 7
                                      go_wp2_with (first | ((with_reducible refine gate_callee (f := 40) rfl ?_); refine goesL_ (some 134) rfl rfl Tryd.func40 (by kernel_rfl) rfl #[.agg #[.int .i64 a0_0, .int .i64 a0_1, .int .i64 a0_2, .int .i64 a0_3, .int .i64 a0_4, .int .i64 a0_5, .bool a0_6, .bool a0_7]] rfl (by (try simp only [List.map_toArray, List.map_cons, List.map_nil]); first | done | rfl | (simp only [List.length_drop, List.length_take]; rfl)) ?_; (with_reducible refine (asm_suffix.calls a0_0 a0_1 a0_2 a0_3 a0_4 a0_5 a0_6 a0_7 t143 _ A108.out).mono ?_); rintro e w114 ⟨rfl, hb⟩; refine ⟨_, rfl, ?_⟩; have n0_ := Aside0.mk (blk_below (g := gb102) (o := .cells #[.int .i64 a0_0, .int .i64 a0_1, .int .i64 a0_2, .int .i64 a0_3, .int .i64 a0_4, .int .i64 a0_5, .bool a0_6, .bool a0_7] 24 (0, 0)) (by (with_reducible repeat (first | refine blk_drewN ?_ _ | refine blk_drew ?_ | refine blk_alloc ?_ _)); exact BK102.out) hb); have n1_ := Aside0.mk (below_step (by repeat (first | (with_reducible first | exact HB.out | apply below_alloc | apply pw_below_drewN | apply below_drew1 | refine below_set ?_ GE102.out) | exact HB.out)) hb); clear BK102; clear HB; have BK102 := n0_; have HB := n1_; clear n0_ n1_; (try clear hb); (try clear hb2); (try clear hk); (try clear hi)) | ((with_reducible refine gate_dst (N := 140) rfl ?_); refine Kd.R_lit Kd.string _ 9 ?hg (N := 140) ?hd (xs := ([t105, ((⟨#[40]⟩ : ByteArray) ++ t106) ++ (⟨#[41]⟩ : ByteArray)] : List ByteArray)) (inner := [.string t105, .string (((⟨#[40]⟩ : ByteArray) ++ t106) ++ (⟨#[41]⟩ : ByteArray))]) (ok := fun _ => True) (okp := fun _ => True) ?hr ?hp (fun _ hk => hk) trivial (Below.refl _ _) (Nat.le_refl _) (by simp) ?_; (case hd => rfl); (case hg => rfl); (case hr => first | (go_simp; done) | (go_simp; rfl)); (case hp => exact (Reps.one (show Kd.M Kd.string _ _ _ t105 [.string t105] from rfl) (Reps.one (show Kd.M Kd.string _ _ _ (((⟨#[40]⟩ : ByteArray) ++ t106) ++ (⟨#[41]⟩ : ByteArray)) [.string (((⟨#[40]⟩ : ByteArray) ++ t106) ++ (⟨#[41]⟩ : ByteArray))] from rfl) (Reps.none _ _)))); intro v145 w115 ho116 hb hg_ hnew_; clear hg_ hnew_; (first | rw [← Ny144.out] at ho116 | (simp only [Int.reduceToNat] at ho116; rw [← Ny144.out] at ho116)); have n0_ := Aside0.mk (Kd.R_lower ho116 (below_size (by repeat (first | (with_reducible first | exact HB.out | apply below_alloc | apply pw_below_drewN | apply below_drew1 | refine below_set ?_ GE102.out) | exact HB.out)))); have n1_ := Aside0.mk (blk_below (g := gb102) (o := .cells #[.int .i64 a0_0, .int .i64 a0_1, .int .i64 a0_2, .int .i64 a0_3, .int .i64 a0_4, .int .i64 a0_5, .bool a0_6, .bool a0_7] 24 (0, 0)) (by (with_reducible repeat (first | refine blk_drewN ?_ _ | refine blk_drew ?_ | refine blk_alloc ?_ _)); exact BK102.out) hb); have n2_ := Aside0.mk (below_step (by repeat (first | (with_reducible first | exact HB.out | apply below_alloc | apply pw_below_drewN | apply below_drew1 | refine below_set ?_ GE102.out) | exact HB.out)) hb); clear BK102; clear HB; have HO146 := n0_; have BK102 := n1_; have HB := n2_; clear n0_ n1_ n2_; clear hb ho116; obtain ⟨Ao117, co117, eo117⟩ := Kd.R_slice HO146.out; subst eo117) | ((with_reducible refine gate_callee (f := 35) rfl ?_); refine goesL_ (some 141) rfl rfl Tryd.func35 (by kernel_rfl) rfl #[.string (t104 ++ t143), .slice Ao117 y144.length co117] rfl (by (try simp only [List.map_toArray, List.map_cons, List.map_nil]); first | done | rfl | (simp only [List.length_drop, List.length_take]; rfl)) ?_; (with_reducible refine (asm_join.calls (t104 ++ t143) _ _ y144 t147 _ ?side1 ?side2 A112.out).mono ?_); (case side1 => repeat (first | exact (Kd.R_reads' HO146.out).2.2 | (with_reducible refine Kd.C_alloc ?_ _) | (with_reducible refine Kd.C_drewN ?_ _) | (with_reducible refine Kd.C_drew ?_))); (case side2 => exact (Kd.R_reads' HO146.out).2.1); rintro e w118 ⟨rfl, hb⟩; refine ⟨_, rfl, ?_⟩; have n0_ := Aside0.mk (Kd.R_below (by (with_reducible repeat (first | apply Kd.R_alloc | apply Kd.R_drewN | apply Kd.R_drew)); exact HO146.out) hb); have n1_ := Aside0.mk (blk_below (g := gb102) (o := .cells #[.int .i64 a0_0, .int .i64 a0_1, .int .i64 a0_2, .int .i64 a0_3, .int .i64 a0_4, .int .i64 a0_5, .bool a0_6, .bool a0_7] 24 (0, 0)) (by (with_reducible repeat (first | refine blk_drewN ?_ _ | refine blk_drew ?_ | refine blk_alloc ?_ _)); exact BK102.out) hb); have n2_ := Aside0.mk (below_step (by repeat (first | (with_reducible first | exact HB.out | apply below_alloc | apply pw_below_drewN | apply below_drew1 | refine below_set ?_ GE102.out) | exact HB.out)) hb); clear HO146; clear BK102; clear HB; have HO146 := n0_; have BK102 := n1_; have HB := n2_; clear n0_ n1_ n2_; (try clear hb); (try clear hb2); (try clear hk); (try clear hi)))
                                      go_ret
                                      exact ⟨by first | rfl | (simp [errW_none, errW_some] <;> rfl) | (simp [*, errW_none, errW_some] <;> rfl), by repeat (first | (with_reducible first | exact HB.out | apply below_alloc | apply pw_below_drewN | apply below_drew1 | refine below_set ?_ GE102.out) | exact HB.out)⟩
                                    · rw [if_neg c111] at H
                                      exact absurd H (by simp)
                                  · rw [if_neg c110] at H
                                    exact absurd H (by simp)
                                · rw [if_neg c109] at H
                                  exact absurd H (by simp)
                              · replace c107 := Bool.eq_false_iff.mpr c107
                                subst c107
                                have H1 : ((inst_Atomics.f a0_0).bind fun t148 => (if t148 = true then ((asm_suffix.f a0_0 a0_1 a0_2 a0_3 a0_4 a0_5 a0_6 a0_7).bind fun t149 => (if t104.size + t149.size ≤ 9223372036854775807 then (if 1 + t106.size ≤ 9223372036854775807 then (if ((⟨#[40]⟩ : ByteArray) ++ t106).size + 1 ≤ 9223372036854775807 then ((asm_join.f (t104 ++ t149) (([t105, t107, ((⟨#[40]⟩ : ByteArray) ++ t106) ++ (⟨#[41]⟩ : ByteArray)] : List ByteArray))).bind fun t153 => (some t153)) else (none)) else (none)) else (none))) else (if a0_0 = 98 then ((asm_join.f t104 (([t106, t107] : List ByteArray))).bind fun t157 => (some t157)) else (if a0_0 = 52 then (asm_Print.j3 kj100 t104 t105 t106 t107 t108 true a0_0 a0_1 a0_2 a0_3 a0_4 a0_5 a0_6 a0_7) else (if a0_0 = 53 then (asm_Print.j3 kj100 t104 t105 t106 t107 t108 true a0_0 a0_1 a0_2 a0_3 a0_4 a0_5 a0_6 a0_7) else (if a0_0 = 95 then (asm_Print.j3 kj100 t104 t105 t106 t107 t108 true a0_0 a0_1 a0_2 a0_3 a0_4 a0_5 a0_6 a0_7) else (if a0_0 = 96 then (asm_Print.j3 kj100 t104 t105 t106 t107 t108 true a0_0 a0_1 a0_2 a0_3 a0_4 a0_5 a0_6 a0_7) else (asm_Print.j3 kj100 t104 t105 t106 t107 t108 (a0_0 == 97) a0_0 a0_1 a0_2 a0_3 a0_4 a0_5 a0_6 a0_7)))))))) = some r := by rw [if_neg (show ¬ (false = true) by decide)] at H; exact H
                                clear H
                                have H := H1
                                clear H1
                                replace H := Option.bind_eq_some_iff.mp H
                                obtain ⟨t148, A1190, H⟩ := H
                                replace H : (if t148 = true then ((asm_suffix.f a0_0 a0_1 a0_2 a0_3 a0_4 a0_5 a0_6 a0_7).bind fun t149 => (if t104.size + t149.size ≤ 9223372036854775807 then (if 1 + t106.size ≤ 9223372036854775807 then (if ((⟨#[40]⟩ : ByteArray) ++ t106).size + 1 ≤ 9223372036854775807 then ((asm_join.f (t104 ++ t149) (([t105, t107, ((⟨#[40]⟩ : ByteArray) ++ t106) ++ (⟨#[41]⟩ : ByteArray)] : List ByteArray))).bind fun t153 => (some t153)) else (none)) else (none)) else (none))) else (if a0_0 = 98 then ((asm_join.f t104 (([t106, t107] : List ByteArray))).bind fun t157 => (some t157)) else (if a0_0 = 52 then (asm_Print.j3 kj100 t104 t105 t106 t107 t108 true a0_0 a0_1 a0_2 a0_3 a0_4 a0_5 a0_6 a0_7) else (if a0_0 = 53 then (asm_Print.j3 kj100 t104 t105 t106 t107 t108 true a0_0 a0_1 a0_2 a0_3 a0_4 a0_5 a0_6 a0_7) else (if a0_0 = 95 then (asm_Print.j3 kj100 t104 t105 t106 t107 t108 true a0_0 a0_1 a0_2 a0_3 a0_4 a0_5 a0_6 a0_7) else (if a0_0 = 96 then (asm_Print.j3 kj100 t104 t105 t106 t107 t108 true a0_0 a0_1 a0_2 a0_3 a0_4 a0_5 a0_6 a0_7) else (asm_Print.j3 kj100 t104 t105 t106 t107 t108 (a0_0 == 97) a0_0 a0_1 a0_2 a0_3 a0_4 a0_5 a0_6 a0_7))))))) = some r := H
                                have A119 := Aside0.mk A1190
                                clear A1190
                                by_cases c120 : t148 = true
                                · subst c120
                                  have H1 : ((asm_suffix.f a0_0 a0_1 a0_2 a0_3 a0_4 a0_5 a0_6 a0_7).bind fun t149 => (if t104.size + t149.size ≤ 9223372036854775807 then (if 1 + t106.size ≤ 9223372036854775807 then (if ((⟨#[40]⟩ : ByteArray) ++ t106).size + 1 ≤ 9223372036854775807 then ((asm_join.f (t104 ++ t149) (([t105, t107, ((⟨#[40]⟩ : ByteArray) ++ t106) ++ (⟨#[41]⟩ : ByteArray)] : List ByteArray))).bind fun t153 => (some t153)) else (none)) else (none)) else (none))) = some r := by rw [if_pos rfl] at H; exact H
                                  clear H
                                  have H := H1
                                  clear H1
                                  replace H := Option.bind_eq_some_iff.mp H
                                  obtain ⟨t149, A1210, H⟩ := H
                                  replace H : (if t104.size + t149.size ≤ 9223372036854775807 then (if 1 + t106.size ≤ 9223372036854775807 then (if ((⟨#[40]⟩ : ByteArray) ++ t106).size + 1 ≤ 9223372036854775807 then ((asm_join.f (t104 ++ t149) (([t105, t107, ((⟨#[40]⟩ : ByteArray) ++ t106) ++ (⟨#[41]⟩ : ByteArray)] : List ByteArray))).bind fun t153 => (some t153)) else (none)) else (none)) else (none)) = some r := H
                                  have A121 := Aside0.mk A1210
                                  clear A1210
                                  by_cases c122 : t104.size + t149.size ≤ 9223372036854775807
                                  · as_aux_lemma =>
                                    rw [if_pos c122] at H
                                    have c122b0 := eq_true c122
                                    have c122b1 : decide (t104.size + t149.size ≤ 9223372036854775807) = true := decide_eq_true c122
                                    try have c122b2 : (9223372036854775807 < t104.size + t149.size) = False := eq_false (Nat.not_lt.2 c122)
                                    by_cases c123 : 1 + t106.size ≤ 9223372036854775807
                                    · as_aux_lemma =>
                                      rw [if_pos c123] at H
                                      have c123b0 := eq_true c123
                                      have c123b1 : decide (1 + t106.size ≤ 9223372036854775807) = true := decide_eq_true c123
                                      try have c123b2 : (9223372036854775807 < 1 + t106.size) = False := eq_false (Nat.not_lt.2 c123)
                                      by_cases c124 : ((⟨#[40]⟩ : ByteArray) ++ t106).size + 1 ≤ 9223372036854775807
                                      · as_aux_lemma =>
                                        rw [if_pos c124] at H
                                        have c124b0 := eq_true c124
                                        have c124b1 : decide (((⟨#[40]⟩ : ByteArray) ++ t106).size + 1 ≤ 9223372036854775807) = true := decide_eq_true c124
                                        try have c124b3 : (9223372036854775807 < 1 + t106.size + 1) = False := eq_false (Nat.not_lt.2 (by have h_ := c124; simp only [ByteArray.size_append] at h_; exact h_))
                                        try have c124b2 : (9223372036854775807 < ((⟨#[40]⟩ : ByteArray) ++ t106).size + 1) = False := eq_false (Nat.not_lt.2 c124)
                                        obtain ⟨y150, hy150⟩ : ∃ y_ : List ByteArray, y_ = (([t105, t107, ((⟨#[40]⟩ : ByteArray) ++ t106) ++ (⟨#[41]⟩ : ByteArray)] : List ByteArray)) := ⟨_, rfl⟩
                                        replace H : ((asm_join.f (t104 ++ t149) y150).bind fun t153 => (some t153)) = some r := by first | (rw [hy150]; with_reducible exact H) | (have H2_ := (Option.bind_some _ _).symm.trans H; rw [hy150]; with_reducible exact H2_) | (have H2_ := (Option.bind_some _ _).symm.trans H; with_reducible exact H2_) | with_reducible exact H | (rw [hy150]; exact H) | exact H
                                        have Ny150 := Aside0.mk hy150
                                        clear hy150
                                        replace H := Option.bind_eq_some_iff.mp H
                                        obtain ⟨t153, A1250, H⟩ := H
                                        replace H : (some t153) = some r := H
                                        have A125 := Aside0.mk A1250
                                        clear A1250
                                        obtain rfl := Option.some.inj H
                                        have hcz126_0 : wc.cell? ⟨gb102, 0, none⟩ = some (.int .i64 a0_0) := (blk_cell BK102.out 0).trans rfl
                                        have hcz126_1 : wc.cell? ⟨gb102, 1, none⟩ = some (.int .i64 a0_1) := (blk_cell BK102.out 1).trans rfl
                                        have hcz126_2 : wc.cell? ⟨gb102, 2, none⟩ = some (.int .i64 a0_2) := (blk_cell BK102.out 2).trans rfl
                                        have hcz126_3 : wc.cell? ⟨gb102, 3, none⟩ = some (.int .i64 a0_3) := (blk_cell BK102.out 3).trans rfl
                                        have hcz126_4 : wc.cell? ⟨gb102, 4, none⟩ = some (.int .i64 a0_4) := (blk_cell BK102.out 4).trans rfl
                                        have hcz126_5 : wc.cell? ⟨gb102, 5, none⟩ = some (.int .i64 a0_5) := (blk_cell BK102.out 5).trans rfl
                                        have hcz126_6 : wc.cell? ⟨gb102, 6, none⟩ = some (.bool a0_6) := (blk_cell BK102.out 6).trans rfl
                                        have hcz126_7 : wc.cell? ⟨gb102, 7, none⟩ = some (.bool a0_7) := (blk_cell BK102.out 7).trans rfl
                                        have hfz126_0 := blk_frozen BK102.out 0
                                        have hfz126_1 := blk_frozen BK102.out 1
                                        have hfz126_2 := blk_frozen BK102.out 2
                                        have hfz126_3 := blk_frozen BK102.out 3
                                        have hfz126_4 := blk_frozen BK102.out 4
                                        have hfz126_5 := blk_frozen BK102.out 5
                                        have hfz126_6 := blk_frozen BK102.out 6
                                        have hfz126_7 := blk_frozen BK102.out 7
                                        go_wp2_with (first | ((with_reducible refine gate_callee (f := 41) rfl ?_); refine goesL_ (some 145) rfl rfl Tryd.func41 (by kernel_rfl) rfl #[.int .i64 a0_0] rfl (by (try simp only [List.map_toArray, List.map_cons, List.map_nil]); first | done | rfl | (simp only [List.length_drop, List.length_take]; rfl)) ?_; (with_reducible refine (inst_Atomics.calls a0_0 true _ A119.out).mono ?_); rintro e w127 ⟨rfl, hb⟩; refine ⟨_, rfl, ?_⟩; have n0_ := Aside0.mk (blk_below (g := gb102) (o := .cells #[.int .i64 a0_0, .int .i64 a0_1, .int .i64 a0_2, .int .i64 a0_3, .int .i64 a0_4, .int .i64 a0_5, .bool a0_6, .bool a0_7] 24 (0, 0)) (by (with_reducible repeat (first | refine blk_drewN ?_ _ | refine blk_drew ?_ | refine blk_alloc ?_ _)); exact BK102.out) hb); have n1_ := Aside0.mk (below_step (by repeat (first | (with_reducible first | exact HB.out | apply below_alloc | apply pw_below_drewN | apply below_drew1 | refine below_set ?_ GE102.out) | exact HB.out)) hb); clear BK102; clear HB; have BK102 := n0_; have HB := n1_; clear n0_ n1_; (try clear hb); (try clear hb2); (try clear hk); (try clear hi); have hcz128_0 : w127.cell? ⟨gb102, 0, none⟩ = some (.int .i64 a0_0) := (blk_cell BK102.out 0).trans rfl; have hcz128_1 : w127.cell? ⟨gb102, 1, none⟩ = some (.int .i64 a0_1) := (blk_cell BK102.out 1).trans rfl; have hcz128_2 : w127.cell? ⟨gb102, 2, none⟩ = some (.int .i64 a0_2) := (blk_cell BK102.out 2).trans rfl; have hcz128_3 : w127.cell? ⟨gb102, 3, none⟩ = some (.int .i64 a0_3) := (blk_cell BK102.out 3).trans rfl; have hcz128_4 : w127.cell? ⟨gb102, 4, none⟩ = some (.int .i64 a0_4) := (blk_cell BK102.out 4).trans rfl; have hcz128_5 : w127.cell? ⟨gb102, 5, none⟩ = some (.int .i64 a0_5) := (blk_cell BK102.out 5).trans rfl; have hcz128_6 : w127.cell? ⟨gb102, 6, none⟩ = some (.bool a0_6) := (blk_cell BK102.out 6).trans rfl; have hcz128_7 : w127.cell? ⟨gb102, 7, none⟩ = some (.bool a0_7) := (blk_cell BK102.out 7).trans rfl; have hfz128_0 := blk_frozen BK102.out 0; have hfz128_1 := blk_frozen BK102.out 1; have hfz128_2 := blk_frozen BK102.out 2; have hfz128_3 := blk_frozen BK102.out 3; have hfz128_4 := blk_frozen BK102.out 4; have hfz128_5 := blk_frozen BK102.out 5; have hfz128_6 := blk_frozen BK102.out 6; have hfz128_7 := blk_frozen BK102.out 7) | ((with_reducible refine gate_callee (f := 40) rfl ?_); refine goesL_ (some 148) rfl rfl Tryd.func40 (by kernel_rfl) rfl #[.agg #[.int .i64 a0_0, .int .i64 a0_1, .int .i64 a0_2, .int .i64 a0_3, .int .i64 a0_4, .int .i64 a0_5, .bool a0_6, .bool a0_7]] rfl (by (try simp only [List.map_toArray, List.map_cons, List.map_nil]); first | done | rfl | (simp only [List.length_drop, List.length_take]; rfl)) ?_; (with_reducible refine (asm_suffix.calls a0_0 a0_1 a0_2 a0_3 a0_4 a0_5 a0_6 a0_7 t149 _ A121.out).mono ?_); rintro e w129 ⟨rfl, hb⟩; refine ⟨_, rfl, ?_⟩; have n0_ := Aside0.mk (blk_below (g := gb102) (o := .cells #[.int .i64 a0_0, .int .i64 a0_1, .int .i64 a0_2, .int .i64 a0_3, .int .i64 a0_4, .int .i64 a0_5, .bool a0_6, .bool a0_7] 24 (0, 0)) (by (with_reducible repeat (first | refine blk_drewN ?_ _ | refine blk_drew ?_ | refine blk_alloc ?_ _)); exact BK102.out) hb); have n1_ := Aside0.mk (below_step (by repeat (first | (with_reducible first | exact HB.out | apply below_alloc | apply pw_below_drewN | apply below_drew1 | refine below_set ?_ GE102.out) | exact HB.out)) hb); clear BK102; clear HB; have BK102 := n0_; have HB := n1_; clear n0_ n1_; (try clear hb); (try clear hb2); (try clear hk); (try clear hi)) | ((with_reducible refine gate_dst (N := 155) rfl ?_); refine Kd.R_lit Kd.string _ 9 ?hg (N := 155) ?hd (xs := ([t105, t107, ((⟨#[40]⟩ : ByteArray) ++ t106) ++ (⟨#[41]⟩ : ByteArray)] : List ByteArray)) (inner := [.string t105, .string t107, .string (((⟨#[40]⟩ : ByteArray) ++ t106) ++ (⟨#[41]⟩ : ByteArray))]) (ok := fun _ => True) (okp := fun _ => True) ?hr ?hp (fun _ hk => hk) trivial (Below.refl _ _) (Nat.le_refl _) (by simp) ?_; (case hd => rfl); (case hg => rfl); (case hr => first | (go_simp; done) | (go_simp; rfl)); (case hp => exact (Reps.one (show Kd.M Kd.string _ _ _ t105 [.string t105] from rfl) (Reps.one (show Kd.M Kd.string _ _ _ t107 [.string t107] from rfl) (Reps.one (show Kd.M Kd.string _ _ _ (((⟨#[40]⟩ : ByteArray) ++ t106) ++ (⟨#[41]⟩ : ByteArray)) [.string (((⟨#[40]⟩ : ByteArray) ++ t106) ++ (⟨#[41]⟩ : ByteArray))] from rfl) (Reps.none _ _))))); intro v151 w130 ho131 hb hg_ hnew_; clear hg_ hnew_; (first | rw [← Ny150.out] at ho131 | (simp only [Int.reduceToNat] at ho131; rw [← Ny150.out] at ho131)); have n0_ := Aside0.mk (Kd.R_lower ho131 (below_size (by repeat (first | (with_reducible first | exact HB.out | apply below_alloc | apply pw_below_drewN | apply below_drew1 | refine below_set ?_ GE102.out) | exact HB.out)))); have n1_ := Aside0.mk (blk_below (g := gb102) (o := .cells #[.int .i64 a0_0, .int .i64 a0_1, .int .i64 a0_2, .int .i64 a0_3, .int .i64 a0_4, .int .i64 a0_5, .bool a0_6, .bool a0_7] 24 (0, 0)) (by (with_reducible repeat (first | refine blk_drewN ?_ _ | refine blk_drew ?_ | refine blk_alloc ?_ _)); exact BK102.out) hb); have n2_ := Aside0.mk (below_step (by repeat (first | (with_reducible first | exact HB.out | apply below_alloc | apply pw_below_drewN | apply below_drew1 | refine below_set ?_ GE102.out) | exact HB.out)) hb); clear BK102; clear HB; have HO152 := n0_; have BK102 := n1_; have HB := n2_; clear n0_ n1_ n2_; clear hb ho131; obtain ⟨Ao132, co132, eo132⟩ := Kd.R_slice HO152.out; subst eo132) | ((with_reducible refine gate_callee (f := 35) rfl ?_); refine goesL_ (some 156) rfl rfl Tryd.func35 (by kernel_rfl) rfl #[.string (t104 ++ t149), .slice Ao132 y150.length co132] rfl (by (try simp only [List.map_toArray, List.map_cons, List.map_nil]); first | done | rfl | (simp only [List.length_drop, List.length_take]; rfl)) ?_; (with_reducible refine (asm_join.calls (t104 ++ t149) _ _ y150 t153 _ ?side1 ?side2 A125.out).mono ?_); (case side1 => repeat (first | exact (Kd.R_reads' HO152.out).2.2 | (with_reducible refine Kd.C_alloc ?_ _) | (with_reducible refine Kd.C_drewN ?_ _) | (with_reducible refine Kd.C_drew ?_))); (case side2 => exact (Kd.R_reads' HO152.out).2.1); rintro e w133 ⟨rfl, hb⟩; refine ⟨_, rfl, ?_⟩; have n0_ := Aside0.mk (Kd.R_below (by (with_reducible repeat (first | apply Kd.R_alloc | apply Kd.R_drewN | apply Kd.R_drew)); exact HO152.out) hb); have n1_ := Aside0.mk (blk_below (g := gb102) (o := .cells #[.int .i64 a0_0, .int .i64 a0_1, .int .i64 a0_2, .int .i64 a0_3, .int .i64 a0_4, .int .i64 a0_5, .bool a0_6, .bool a0_7] 24 (0, 0)) (by (with_reducible repeat (first | refine blk_drewN ?_ _ | refine blk_drew ?_ | refine blk_alloc ?_ _)); exact BK102.out) hb); have n2_ := Aside0.mk (below_step (by repeat (first | (with_reducible first | exact HB.out | apply below_alloc | apply pw_below_drewN | apply below_drew1 | refine below_set ?_ GE102.out) | exact HB.out)) hb); clear HO152; clear BK102; clear HB; have HO152 := n0_; have BK102 := n1_; have HB := n2_; clear n0_ n1_ n2_; (try clear hb); (try clear hb2); (try clear hk); (try clear hi)))
                                        go_ret
                                        exact ⟨by first | rfl | (simp [errW_none, errW_some] <;> rfl) | (simp [*, errW_none, errW_some] <;> rfl), by repeat (first | (with_reducible first | exact HB.out | apply below_alloc | apply pw_below_drewN | apply below_drew1 | refine below_set ?_ GE102.out) | exact HB.out)⟩
                                      · rw [if_neg c124] at H
                                        exact absurd H (by simp)
                                    · rw [if_neg c123] at H
                                      exact absurd H (by simp)
                                  · rw [if_neg c122] at H
                                    exact absurd H (by simp)
                                · replace c120 := Bool.eq_false_iff.mpr c120
                                  subst c120
                                  have H1 : (if a0_0 = 98 then ((asm_join.f t104 (([t106, t107] : List ByteArray))).bind fun t157 => (some t157)) else (if a0_0 = 52 then (asm_Print.j3 kj100 t104 t105 t106 t107 t108 true a0_0 a0_1 a0_2 a0_3 a0_4 a0_5 a0_6 a0_7) else (if a0_0 = 53 then (asm_Print.j3 kj100 t104 t105 t106 t107 t108 true a0_0 a0_1 a0_2 a0_3 a0_4 a0_5 a0_6 a0_7) else (if a0_0 = 95 then (asm_Print.j3 kj100 t104 t105 t106 t107 t108 true a0_0 a0_1 a0_2 a0_3 a0_4 a0_5 a0_6 a0_7) else (if a0_0 = 96 then (asm_Print.j3 kj100 t104 t105 t106 t107 t108 true a0_0 a0_1 a0_2 a0_3 a0_4 a0_5 a0_6 a0_7) else (asm_Print.j3 kj100 t104 t105 t106 t107 t108 (a0_0 == 97) a0_0 a0_1 a0_2 a0_3 a0_4 a0_5 a0_6 a0_7)))))) = some r := by rw [if_neg (show ¬ (false = true) by decide)] at H; exact H
                                  clear H
                                  have H := H1
                                  clear H1
                                  by_cases c134 : a0_0 = 98
                                  · as_aux_lemma =>
                                    rw [if_pos c134] at H
                                    have c134b0 : (a0_0 == 98) = true := beq_iff_eq.mpr c134
                                    have c134b1 : (a0_0 != 98) = false := bne_eq_false_iff_eq.mpr c134
                                    clear c134
                                    obtain ⟨y154, hy154⟩ : ∃ y_ : List ByteArray, y_ = (([t106, t107] : List ByteArray)) := ⟨_, rfl⟩
                                    replace H : ((asm_join.f t104 y154).bind fun t157 => (some t157)) = some r := by first | (rw [hy154]; with_reducible exact H) | (have H2_ := (Option.bind_some _ _).symm.trans H; rw [hy154]; with_reducible exact H2_) | (have H2_ := (Option.bind_some _ _).symm.trans H; with_reducible exact H2_) | with_reducible exact H | (rw [hy154]; exact H) | exact H
                                    have Ny154 := Aside0.mk hy154
                                    clear hy154
                                    replace H := Option.bind_eq_some_iff.mp H
                                    obtain ⟨t157, A1350, H⟩ := H
                                    replace H : (some t157) = some r := H
                                    have A135 := Aside0.mk A1350
                                    clear A1350
                                    obtain rfl := Option.some.inj H
                                    have hcz136_0 : wc.cell? ⟨gb102, 0, none⟩ = some (.int .i64 a0_0) := (blk_cell BK102.out 0).trans rfl
                                    have hcz136_1 : wc.cell? ⟨gb102, 1, none⟩ = some (.int .i64 a0_1) := (blk_cell BK102.out 1).trans rfl
                                    have hcz136_2 : wc.cell? ⟨gb102, 2, none⟩ = some (.int .i64 a0_2) := (blk_cell BK102.out 2).trans rfl
                                    have hcz136_3 : wc.cell? ⟨gb102, 3, none⟩ = some (.int .i64 a0_3) := (blk_cell BK102.out 3).trans rfl
                                    have hcz136_4 : wc.cell? ⟨gb102, 4, none⟩ = some (.int .i64 a0_4) := (blk_cell BK102.out 4).trans rfl
                                    have hcz136_5 : wc.cell? ⟨gb102, 5, none⟩ = some (.int .i64 a0_5) := (blk_cell BK102.out 5).trans rfl
                                    have hcz136_6 : wc.cell? ⟨gb102, 6, none⟩ = some (.bool a0_6) := (blk_cell BK102.out 6).trans rfl
                                    have hcz136_7 : wc.cell? ⟨gb102, 7, none⟩ = some (.bool a0_7) := (blk_cell BK102.out 7).trans rfl
                                    have hfz136_0 := blk_frozen BK102.out 0
                                    have hfz136_1 := blk_frozen BK102.out 1
                                    have hfz136_2 := blk_frozen BK102.out 2
                                    have hfz136_3 := blk_frozen BK102.out 3
                                    have hfz136_4 := blk_frozen BK102.out 4
                                    have hfz136_5 := blk_frozen BK102.out 5
                                    have hfz136_6 := blk_frozen BK102.out 6
                                    have hfz136_7 := blk_frozen BK102.out 7
                                    go_wp2_with (first | ((with_reducible refine gate_callee (f := 41) rfl ?_); refine goesL_ (some 145) rfl rfl Tryd.func41 (by kernel_rfl) rfl #[.int .i64 a0_0] rfl (by (try simp only [List.map_toArray, List.map_cons, List.map_nil]); first | done | rfl | (simp only [List.length_drop, List.length_take]; rfl)) ?_; (with_reducible refine (inst_Atomics.calls a0_0 false _ A119.out).mono ?_); rintro e w137 ⟨rfl, hb⟩; refine ⟨_, rfl, ?_⟩; have n0_ := Aside0.mk (blk_below (g := gb102) (o := .cells #[.int .i64 a0_0, .int .i64 a0_1, .int .i64 a0_2, .int .i64 a0_3, .int .i64 a0_4, .int .i64 a0_5, .bool a0_6, .bool a0_7] 24 (0, 0)) (by (with_reducible repeat (first | refine blk_drewN ?_ _ | refine blk_drew ?_ | refine blk_alloc ?_ _)); exact BK102.out) hb); have n1_ := Aside0.mk (below_step (by repeat (first | (with_reducible first | exact HB.out | apply below_alloc | apply pw_below_drewN | apply below_drew1 | refine below_set ?_ GE102.out) | exact HB.out)) hb); clear BK102; clear HB; have BK102 := n0_; have HB := n1_; clear n0_ n1_; (try clear hb); (try clear hb2); (try clear hk); (try clear hi); have hcz138_0 : w137.cell? ⟨gb102, 0, none⟩ = some (.int .i64 a0_0) := (blk_cell BK102.out 0).trans rfl; have hcz138_1 : w137.cell? ⟨gb102, 1, none⟩ = some (.int .i64 a0_1) := (blk_cell BK102.out 1).trans rfl; have hcz138_2 : w137.cell? ⟨gb102, 2, none⟩ = some (.int .i64 a0_2) := (blk_cell BK102.out 2).trans rfl; have hcz138_3 : w137.cell? ⟨gb102, 3, none⟩ = some (.int .i64 a0_3) := (blk_cell BK102.out 3).trans rfl; have hcz138_4 : w137.cell? ⟨gb102, 4, none⟩ = some (.int .i64 a0_4) := (blk_cell BK102.out 4).trans rfl; have hcz138_5 : w137.cell? ⟨gb102, 5, none⟩ = some (.int .i64 a0_5) := (blk_cell BK102.out 5).trans rfl; have hcz138_6 : w137.cell? ⟨gb102, 6, none⟩ = some (.bool a0_6) := (blk_cell BK102.out 6).trans rfl; have hcz138_7 : w137.cell? ⟨gb102, 7, none⟩ = some (.bool a0_7) := (blk_cell BK102.out 7).trans rfl; have hfz138_0 := blk_frozen BK102.out 0; have hfz138_1 := blk_frozen BK102.out 1; have hfz138_2 := blk_frozen BK102.out 2; have hfz138_3 := blk_frozen BK102.out 3; have hfz138_4 := blk_frozen BK102.out 4; have hfz138_5 := blk_frozen BK102.out 5; have hfz138_6 := blk_frozen BK102.out 6; have hfz138_7 := blk_frozen BK102.out 7) | ((with_reducible refine gate_dst (N := 164) rfl ?_); refine Kd.R_lit Kd.string _ 9 ?hg (N := 164) ?hd (xs := ([t106, t107] : List ByteArray)) (inner := [.string t106, .string t107]) (ok := fun _ => True) (okp := fun _ => True) ?hr ?hp (fun _ hk => hk) trivial (Below.refl _ _) (Nat.le_refl _) (by simp) ?_; (case hd => rfl); (case hg => rfl); (case hr => first | (go_simp; done) | (go_simp; rfl)); (case hp => exact (Reps.one (show Kd.M Kd.string _ _ _ t106 [.string t106] from rfl) (Reps.one (show Kd.M Kd.string _ _ _ t107 [.string t107] from rfl) (Reps.none _ _)))); intro v155 w139 ho140 hb hg_ hnew_; clear hg_ hnew_; (first | rw [← Ny154.out] at ho140 | (simp only [Int.reduceToNat] at ho140; rw [← Ny154.out] at ho140)); have n0_ := Aside0.mk (Kd.R_lower ho140 (below_size (by repeat (first | (with_reducible first | exact HB.out | apply below_alloc | apply pw_below_drewN | apply below_drew1 | refine below_set ?_ GE102.out) | exact HB.out)))); have n1_ := Aside0.mk (blk_below (g := gb102) (o := .cells #[.int .i64 a0_0, .int .i64 a0_1, .int .i64 a0_2, .int .i64 a0_3, .int .i64 a0_4, .int .i64 a0_5, .bool a0_6, .bool a0_7] 24 (0, 0)) (by (with_reducible repeat (first | refine blk_drewN ?_ _ | refine blk_drew ?_ | refine blk_alloc ?_ _)); exact BK102.out) hb); have n2_ := Aside0.mk (below_step (by repeat (first | (with_reducible first | exact HB.out | apply below_alloc | apply pw_below_drewN | apply below_drew1 | refine below_set ?_ GE102.out) | exact HB.out)) hb); clear BK102; clear HB; have HO156 := n0_; have BK102 := n1_; have HB := n2_; clear n0_ n1_ n2_; clear hb ho140; obtain ⟨Ao141, co141, eo141⟩ := Kd.R_slice HO156.out; subst eo141) | ((with_reducible refine gate_callee (f := 35) rfl ?_); refine goesL_ (some 165) rfl rfl Tryd.func35 (by kernel_rfl) rfl #[.string t104, .slice Ao141 y154.length co141] rfl (by (try simp only [List.map_toArray, List.map_cons, List.map_nil]); first | done | rfl | (simp only [List.length_drop, List.length_take]; rfl)) ?_; (with_reducible refine (asm_join.calls t104 _ _ y154 t157 _ ?side1 ?side2 A135.out).mono ?_); (case side1 => repeat (first | exact (Kd.R_reads' HO156.out).2.2 | (with_reducible refine Kd.C_alloc ?_ _) | (with_reducible refine Kd.C_drewN ?_ _) | (with_reducible refine Kd.C_drew ?_))); (case side2 => exact (Kd.R_reads' HO156.out).2.1); rintro e w142 ⟨rfl, hb⟩; refine ⟨_, rfl, ?_⟩; have n0_ := Aside0.mk (Kd.R_below (by (with_reducible repeat (first | apply Kd.R_alloc | apply Kd.R_drewN | apply Kd.R_drew)); exact HO156.out) hb); have n1_ := Aside0.mk (blk_below (g := gb102) (o := .cells #[.int .i64 a0_0, .int .i64 a0_1, .int .i64 a0_2, .int .i64 a0_3, .int .i64 a0_4, .int .i64 a0_5, .bool a0_6, .bool a0_7] 24 (0, 0)) (by (with_reducible repeat (first | refine blk_drewN ?_ _ | refine blk_drew ?_ | refine blk_alloc ?_ _)); exact BK102.out) hb); have n2_ := Aside0.mk (below_step (by repeat (first | (with_reducible first | exact HB.out | apply below_alloc | apply pw_below_drewN | apply below_drew1 | refine below_set ?_ GE102.out) | exact HB.out)) hb); clear HO156; clear BK102; clear HB; have HO156 := n0_; have BK102 := n1_; have HB := n2_; clear n0_ n1_ n2_; (try clear hb); (try clear hb2); (try clear hk); (try clear hi)))
                                    go_ret
                                    exact ⟨by first | rfl | (simp [errW_none, errW_some] <;> rfl) | (simp [*, errW_none, errW_some] <;> rfl), by repeat (first | (with_reducible first | exact HB.out | apply below_alloc | apply pw_below_drewN | apply below_drew1 | refine below_set ?_ GE102.out) | exact HB.out)⟩
                                  · as_aux_lemma =>
                                    rw [if_neg c134] at H
                                    have c134b0 : (a0_0 == 98) = false := beq_eq_false_iff_ne.mpr c134
                                    have c134b1 : (a0_0 != 98) = true := bne_iff_ne.mpr c134
                                    have HC143 := Aside0.mk H
                                    clear H
                                    have hcz144_0 : wc.cell? ⟨gb102, 0, none⟩ = some (.int .i64 a0_0) := (blk_cell BK102.out 0).trans rfl
                                    have hcz144_1 : wc.cell? ⟨gb102, 1, none⟩ = some (.int .i64 a0_1) := (blk_cell BK102.out 1).trans rfl
                                    have hcz144_2 : wc.cell? ⟨gb102, 2, none⟩ = some (.int .i64 a0_2) := (blk_cell BK102.out 2).trans rfl
                                    have hcz144_3 : wc.cell? ⟨gb102, 3, none⟩ = some (.int .i64 a0_3) := (blk_cell BK102.out 3).trans rfl
                                    have hcz144_4 : wc.cell? ⟨gb102, 4, none⟩ = some (.int .i64 a0_4) := (blk_cell BK102.out 4).trans rfl
                                    have hcz144_5 : wc.cell? ⟨gb102, 5, none⟩ = some (.int .i64 a0_5) := (blk_cell BK102.out 5).trans rfl
                                    have hcz144_6 : wc.cell? ⟨gb102, 6, none⟩ = some (.bool a0_6) := (blk_cell BK102.out 6).trans rfl
                                    have hcz144_7 : wc.cell? ⟨gb102, 7, none⟩ = some (.bool a0_7) := (blk_cell BK102.out 7).trans rfl
                                    have hfz144_0 := blk_frozen BK102.out 0
                                    have hfz144_1 := blk_frozen BK102.out 1
                                    have hfz144_2 := blk_frozen BK102.out 2
                                    have hfz144_3 := blk_frozen BK102.out 3
                                    have hfz144_4 := blk_frozen BK102.out 4
                                    have hfz144_5 := blk_frozen BK102.out 5
                                    have hfz144_6 := blk_frozen BK102.out 6
                                    have hfz144_7 := blk_frozen BK102.out 7
                                    go_upto_region 25 with (first | ((with_reducible refine gate_callee (f := 41) rfl ?_); refine goesL_ (some 145) rfl rfl Tryd.func41 (by kernel_rfl) rfl #[.int .i64 a0_0] rfl (by (try simp only [List.map_toArray, List.map_cons, List.map_nil]); first | done | rfl | (simp only [List.length_drop, List.length_take]; rfl)) ?_; (with_reducible refine (inst_Atomics.calls a0_0 false _ A119.out).mono ?_); rintro e w145 ⟨rfl, hb⟩; refine ⟨_, rfl, ?_⟩; have n0_ := Aside0.mk (blk_below (g := gb102) (o := .cells #[.int .i64 a0_0, .int .i64 a0_1, .int .i64 a0_2, .int .i64 a0_3, .int .i64 a0_4, .int .i64 a0_5, .bool a0_6, .bool a0_7] 24 (0, 0)) (by (with_reducible repeat (first | refine blk_drewN ?_ _ | refine blk_drew ?_ | refine blk_alloc ?_ _)); exact BK102.out) hb); have n1_ := Aside0.mk (below_step (by repeat (first | (with_reducible first | exact HB.out | apply below_alloc | apply pw_below_drewN | apply below_drew1 | refine below_set ?_ GE102.out) | exact HB.out)) hb); clear BK102; clear HB; have BK102 := n0_; have HB := n1_; clear n0_ n1_; (try clear hb); (try clear hb2); (try clear hk); (try clear hi); have hcz146_0 : w145.cell? ⟨gb102, 0, none⟩ = some (.int .i64 a0_0) := (blk_cell BK102.out 0).trans rfl; have hcz146_1 : w145.cell? ⟨gb102, 1, none⟩ = some (.int .i64 a0_1) := (blk_cell BK102.out 1).trans rfl; have hcz146_2 : w145.cell? ⟨gb102, 2, none⟩ = some (.int .i64 a0_2) := (blk_cell BK102.out 2).trans rfl; have hcz146_3 : w145.cell? ⟨gb102, 3, none⟩ = some (.int .i64 a0_3) := (blk_cell BK102.out 3).trans rfl; have hcz146_4 : w145.cell? ⟨gb102, 4, none⟩ = some (.int .i64 a0_4) := (blk_cell BK102.out 4).trans rfl; have hcz146_5 : w145.cell? ⟨gb102, 5, none⟩ = some (.int .i64 a0_5) := (blk_cell BK102.out 5).trans rfl; have hcz146_6 : w145.cell? ⟨gb102, 6, none⟩ = some (.bool a0_6) := (blk_cell BK102.out 6).trans rfl; have hcz146_7 : w145.cell? ⟨gb102, 7, none⟩ = some (.bool a0_7) := (blk_cell BK102.out 7).trans rfl; have hfz146_0 := blk_frozen BK102.out 0; have hfz146_1 := blk_frozen BK102.out 1; have hfz146_2 := blk_frozen BK102.out 2; have hfz146_3 := blk_frozen BK102.out 3; have hfz146_4 := blk_frozen BK102.out 4; have hfz146_5 := blk_frozen BK102.out 5; have hfz146_6 := blk_frozen BK102.out 6; have hfz146_7 := blk_frozen BK102.out 7))
                                    (try simp only [Act.put, List.setIfInBounds_toArray, List.set_cons_zero, List.set_cons_succ])
                                    go_cut [166] (fun v166 wc => ∃ (kq : Nat) (x166_142 : Bool), v166 = .bool x166_142 ∧ Aside0 (asm_Print.j3 kq t104 t105 t106 t107 t108 x166_142 a0_0 a0_1 a0_2 a0_3 a0_4 a0_5 a0_6 a0_7 = some r) ∧ Aside0 (kq ≤ kj100) ∧ Aside0 (wc.heap[gb102]? = some (.cells #[.int .i64 a0_0, .int .i64 a0_1, .int .i64 a0_2, .int .i64 a0_3, .int .i64 a0_4, .int .i64 a0_5, .bool a0_6, .bool a0_7] 24 (0, 0))) ∧ Aside0 (Below w.heap.size w wc))
                                    case first => as_aux_lemma =>
                                      have H := HC143.out
                                      clear HC143
                                      by_cases c147 : a0_0 = 52
                                      · as_aux_lemma =>
                                        rw [if_pos c147] at H
                                        have c147b0 : (a0_0 == 52) = true := beq_iff_eq.mpr c147
                                        have c147b1 : (a0_0 != 52) = false := bne_eq_false_iff_eq.mpr c147
                                        clear c147
                                        (first | rw [c147b0] | (simp only [i64_w, i32_w]; rw [c147b0]) | skip)
                                        have H' := Aside0.mk H
                                        clear H
                                        have hcz148_0 : w145.cell? ⟨gb102, 0, none⟩ = some (.int .i64 a0_0) := (blk_cell BK102.out 0).trans rfl
                                        have hcz148_1 : w145.cell? ⟨gb102, 1, none⟩ = some (.int .i64 a0_1) := (blk_cell BK102.out 1).trans rfl
                                        have hcz148_2 : w145.cell? ⟨gb102, 2, none⟩ = some (.int .i64 a0_2) := (blk_cell BK102.out 2).trans rfl
                                        have hcz148_3 : w145.cell? ⟨gb102, 3, none⟩ = some (.int .i64 a0_3) := (blk_cell BK102.out 3).trans rfl
                                        have hcz148_4 : w145.cell? ⟨gb102, 4, none⟩ = some (.int .i64 a0_4) := (blk_cell BK102.out 4).trans rfl
                                        have hcz148_5 : w145.cell? ⟨gb102, 5, none⟩ = some (.int .i64 a0_5) := (blk_cell BK102.out 5).trans rfl
                                        have hcz148_6 : w145.cell? ⟨gb102, 6, none⟩ = some (.bool a0_6) := (blk_cell BK102.out 6).trans rfl
                                        have hcz148_7 : w145.cell? ⟨gb102, 7, none⟩ = some (.bool a0_7) := (blk_cell BK102.out 7).trans rfl
                                        have hfz148_0 := blk_frozen BK102.out 0
                                        have hfz148_1 := blk_frozen BK102.out 1
                                        have hfz148_2 := blk_frozen BK102.out 2
                                        have hfz148_3 := blk_frozen BK102.out 3
                                        have hfz148_4 := blk_frozen BK102.out 4
                                        have hfz148_5 := blk_frozen BK102.out 5
                                        have hfz148_6 := blk_frozen BK102.out 6
                                        have hfz148_7 := blk_frozen BK102.out 7
                                        go_wp2
                                        go_meet
                                        case rel => exact ⟨_, (true), (by first | rfl | (simp; done) | (simp [*]; done)), H', ⟨by have := HJ9.out; have := HJ73.out; have := HJ100.out; first | omega | exact Nat.le_refl _⟩, ⟨by (with_reducible repeat (first | refine blk_drewN ?_ _ | refine blk_drew ?_ | refine blk_alloc ?_ _)); exact BK102.out⟩, ⟨by repeat (first | (with_reducible first | exact HB.out | apply below_alloc | apply pw_below_drewN | apply below_drew1 | refine below_set ?_ GE102.out) | exact HB.out)⟩⟩
                                      · as_aux_lemma =>
                                        rw [if_neg c147] at H
                                        have c147b0 : (a0_0 == 52) = false := beq_eq_false_iff_ne.mpr c147
                                        have c147b1 : (a0_0 != 52) = true := bne_iff_ne.mpr c147
                                        (first | rw [c147b0] | (simp only [i64_w, i32_w]; rw [c147b0]) | skip)
                                        by_cases c149 : a0_0 = 53
                                        · as_aux_lemma =>
                                          rw [if_pos c149] at H
                                          have c149b0 : (a0_0 == 53) = true := beq_iff_eq.mpr c149
                                          have c149b1 : (a0_0 != 53) = false := bne_eq_false_iff_eq.mpr c149
                                          clear c149
                                          have H' := Aside0.mk H
                                          clear H
                                          have hcz150_0 : w145.cell? ⟨gb102, 0, none⟩ = some (.int .i64 a0_0) := (blk_cell BK102.out 0).trans rfl
                                          have hcz150_1 : w145.cell? ⟨gb102, 1, none⟩ = some (.int .i64 a0_1) := (blk_cell BK102.out 1).trans rfl
                                          have hcz150_2 : w145.cell? ⟨gb102, 2, none⟩ = some (.int .i64 a0_2) := (blk_cell BK102.out 2).trans rfl
                                          have hcz150_3 : w145.cell? ⟨gb102, 3, none⟩ = some (.int .i64 a0_3) := (blk_cell BK102.out 3).trans rfl
                                          have hcz150_4 : w145.cell? ⟨gb102, 4, none⟩ = some (.int .i64 a0_4) := (blk_cell BK102.out 4).trans rfl
                                          have hcz150_5 : w145.cell? ⟨gb102, 5, none⟩ = some (.int .i64 a0_5) := (blk_cell BK102.out 5).trans rfl
                                          have hcz150_6 : w145.cell? ⟨gb102, 6, none⟩ = some (.bool a0_6) := (blk_cell BK102.out 6).trans rfl
                                          have hcz150_7 : w145.cell? ⟨gb102, 7, none⟩ = some (.bool a0_7) := (blk_cell BK102.out 7).trans rfl
                                          have hfz150_0 := blk_frozen BK102.out 0
                                          have hfz150_1 := blk_frozen BK102.out 1
                                          have hfz150_2 := blk_frozen BK102.out 2
                                          have hfz150_3 := blk_frozen BK102.out 3
                                          have hfz150_4 := blk_frozen BK102.out 4
                                          have hfz150_5 := blk_frozen BK102.out 5
                                          have hfz150_6 := blk_frozen BK102.out 6
                                          have hfz150_7 := blk_frozen BK102.out 7
                                          go_wp2
                                          go_meet
                                          case rel => exact ⟨_, (true), (by first | rfl | (simp; done) | (simp [*]; done)), H', ⟨by have := HJ9.out; have := HJ73.out; have := HJ100.out; first | omega | exact Nat.le_refl _⟩, ⟨by (with_reducible repeat (first | refine blk_drewN ?_ _ | refine blk_drew ?_ | refine blk_alloc ?_ _)); exact BK102.out⟩, ⟨by repeat (first | (with_reducible first | exact HB.out | apply below_alloc | apply pw_below_drewN | apply below_drew1 | refine below_set ?_ GE102.out) | exact HB.out)⟩⟩
                                        · as_aux_lemma =>
                                          rw [if_neg c149] at H
                                          have c149b0 : (a0_0 == 53) = false := beq_eq_false_iff_ne.mpr c149
                                          have c149b1 : (a0_0 != 53) = true := bne_iff_ne.mpr c149
                                          by_cases c151 : a0_0 = 95
                                          · as_aux_lemma =>
                                            rw [if_pos c151] at H
                                            have c151b0 : (a0_0 == 95) = true := beq_iff_eq.mpr c151
                                            have c151b1 : (a0_0 != 95) = false := bne_eq_false_iff_eq.mpr c151
                                            clear c151
                                            have H' := Aside0.mk H
                                            clear H
                                            have hcz152_0 : w145.cell? ⟨gb102, 0, none⟩ = some (.int .i64 a0_0) := (blk_cell BK102.out 0).trans rfl
                                            have hcz152_1 : w145.cell? ⟨gb102, 1, none⟩ = some (.int .i64 a0_1) := (blk_cell BK102.out 1).trans rfl
                                            have hcz152_2 : w145.cell? ⟨gb102, 2, none⟩ = some (.int .i64 a0_2) := (blk_cell BK102.out 2).trans rfl
                                            have hcz152_3 : w145.cell? ⟨gb102, 3, none⟩ = some (.int .i64 a0_3) := (blk_cell BK102.out 3).trans rfl
                                            have hcz152_4 : w145.cell? ⟨gb102, 4, none⟩ = some (.int .i64 a0_4) := (blk_cell BK102.out 4).trans rfl
                                            have hcz152_5 : w145.cell? ⟨gb102, 5, none⟩ = some (.int .i64 a0_5) := (blk_cell BK102.out 5).trans rfl
                                            have hcz152_6 : w145.cell? ⟨gb102, 6, none⟩ = some (.bool a0_6) := (blk_cell BK102.out 6).trans rfl
                                            have hcz152_7 : w145.cell? ⟨gb102, 7, none⟩ = some (.bool a0_7) := (blk_cell BK102.out 7).trans rfl
                                            have hfz152_0 := blk_frozen BK102.out 0
                                            have hfz152_1 := blk_frozen BK102.out 1
                                            have hfz152_2 := blk_frozen BK102.out 2
                                            have hfz152_3 := blk_frozen BK102.out 3
                                            have hfz152_4 := blk_frozen BK102.out 4
                                            have hfz152_5 := blk_frozen BK102.out 5
                                            have hfz152_6 := blk_frozen BK102.out 6
                                            have hfz152_7 := blk_frozen BK102.out 7
                                            go_wp2
                                            go_meet
                                            case rel => exact ⟨_, (true), (by first | rfl | (simp; done) | (simp [*]; done)), H', ⟨by have := HJ9.out; have := HJ73.out; have := HJ100.out; first | omega | exact Nat.le_refl _⟩, ⟨by (with_reducible repeat (first | refine blk_drewN ?_ _ | refine blk_drew ?_ | refine blk_alloc ?_ _)); exact BK102.out⟩, ⟨by repeat (first | (with_reducible first | exact HB.out | apply below_alloc | apply pw_below_drewN | apply below_drew1 | refine below_set ?_ GE102.out) | exact HB.out)⟩⟩
                                          · as_aux_lemma =>
                                            rw [if_neg c151] at H
                                            have c151b0 : (a0_0 == 95) = false := beq_eq_false_iff_ne.mpr c151
                                            have c151b1 : (a0_0 != 95) = true := bne_iff_ne.mpr c151
                                            by_cases c153 : a0_0 = 96
                                            · as_aux_lemma =>
                                              rw [if_pos c153] at H
                                              have c153b0 : (a0_0 == 96) = true := beq_iff_eq.mpr c153
                                              have c153b1 : (a0_0 != 96) = false := bne_eq_false_iff_eq.mpr c153
                                              clear c153
                                              have H' := Aside0.mk H
                                              clear H
                                              have hcz154_0 : w145.cell? ⟨gb102, 0, none⟩ = some (.int .i64 a0_0) := (blk_cell BK102.out 0).trans rfl
                                              have hcz154_1 : w145.cell? ⟨gb102, 1, none⟩ = some (.int .i64 a0_1) := (blk_cell BK102.out 1).trans rfl
                                              have hcz154_2 : w145.cell? ⟨gb102, 2, none⟩ = some (.int .i64 a0_2) := (blk_cell BK102.out 2).trans rfl
                                              have hcz154_3 : w145.cell? ⟨gb102, 3, none⟩ = some (.int .i64 a0_3) := (blk_cell BK102.out 3).trans rfl
                                              have hcz154_4 : w145.cell? ⟨gb102, 4, none⟩ = some (.int .i64 a0_4) := (blk_cell BK102.out 4).trans rfl
                                              have hcz154_5 : w145.cell? ⟨gb102, 5, none⟩ = some (.int .i64 a0_5) := (blk_cell BK102.out 5).trans rfl
                                              have hcz154_6 : w145.cell? ⟨gb102, 6, none⟩ = some (.bool a0_6) := (blk_cell BK102.out 6).trans rfl
                                              have hcz154_7 : w145.cell? ⟨gb102, 7, none⟩ = some (.bool a0_7) := (blk_cell BK102.out 7).trans rfl
                                              have hfz154_0 := blk_frozen BK102.out 0
                                              have hfz154_1 := blk_frozen BK102.out 1
                                              have hfz154_2 := blk_frozen BK102.out 2
                                              have hfz154_3 := blk_frozen BK102.out 3
                                              have hfz154_4 := blk_frozen BK102.out 4
                                              have hfz154_5 := blk_frozen BK102.out 5
                                              have hfz154_6 := blk_frozen BK102.out 6
                                              have hfz154_7 := blk_frozen BK102.out 7
                                              go_wp2
                                              go_meet
                                              case rel => exact ⟨_, (true), (by first | rfl | (simp; done) | (simp [*]; done)), H', ⟨by have := HJ9.out; have := HJ73.out; have := HJ100.out; first | omega | exact Nat.le_refl _⟩, ⟨by (with_reducible repeat (first | refine blk_drewN ?_ _ | refine blk_drew ?_ | refine blk_alloc ?_ _)); exact BK102.out⟩, ⟨by repeat (first | (with_reducible first | exact HB.out | apply below_alloc | apply pw_below_drewN | apply below_drew1 | refine below_set ?_ GE102.out) | exact HB.out)⟩⟩
                                            · as_aux_lemma =>
                                              rw [if_neg c153] at H
                                              have c153b0 : (a0_0 == 96) = false := beq_eq_false_iff_ne.mpr c153
                                              have c153b1 : (a0_0 != 96) = true := bne_iff_ne.mpr c153
                                              have H' := Aside0.mk H
                                              clear H
                                              have hcz155_0 : w145.cell? ⟨gb102, 0, none⟩ = some (.int .i64 a0_0) := (blk_cell BK102.out 0).trans rfl
                                              have hcz155_1 : w145.cell? ⟨gb102, 1, none⟩ = some (.int .i64 a0_1) := (blk_cell BK102.out 1).trans rfl
                                              have hcz155_2 : w145.cell? ⟨gb102, 2, none⟩ = some (.int .i64 a0_2) := (blk_cell BK102.out 2).trans rfl
                                              have hcz155_3 : w145.cell? ⟨gb102, 3, none⟩ = some (.int .i64 a0_3) := (blk_cell BK102.out 3).trans rfl
                                              have hcz155_4 : w145.cell? ⟨gb102, 4, none⟩ = some (.int .i64 a0_4) := (blk_cell BK102.out 4).trans rfl
                                              have hcz155_5 : w145.cell? ⟨gb102, 5, none⟩ = some (.int .i64 a0_5) := (blk_cell BK102.out 5).trans rfl
                                              have hcz155_6 : w145.cell? ⟨gb102, 6, none⟩ = some (.bool a0_6) := (blk_cell BK102.out 6).trans rfl
                                              have hcz155_7 : w145.cell? ⟨gb102, 7, none⟩ = some (.bool a0_7) := (blk_cell BK102.out 7).trans rfl
                                              have hfz155_0 := blk_frozen BK102.out 0
                                              have hfz155_1 := blk_frozen BK102.out 1
                                              have hfz155_2 := blk_frozen BK102.out 2
                                              have hfz155_3 := blk_frozen BK102.out 3
                                              have hfz155_4 := blk_frozen BK102.out 4
                                              have hfz155_5 := blk_frozen BK102.out 5
                                              have hfz155_6 := blk_frozen BK102.out 6
                                              have hfz155_7 := blk_frozen BK102.out 7
                                              go_wp2
                                              go_meet
                                              case rel => exact ⟨_, ((a0_0 == 97)), (by first | rfl | (simp; done) | (simp [*]; done)), H', ⟨by have := HJ9.out; have := HJ73.out; have := HJ100.out; first | omega | exact Nat.le_refl _⟩, ⟨by (with_reducible repeat (first | refine blk_drewN ?_ _ | refine blk_drew ?_ | refine blk_alloc ?_ _)); exact BK102.out⟩, ⟨by repeat (first | (with_reducible first | exact HB.out | apply below_alloc | apply pw_below_drewN | apply below_drew1 | refine below_set ?_ GE102.out) | exact HB.out)⟩⟩
                                    case rest => as_aux_lemma =>
                                      clear HC143
                                      try clear c1
                                      try clear p2
                                      try clear c3
                                      try clear c4
                                      try clear p6
                                      try clear c10
                                      try clear c11
                                      try clear c12
                                      try clear c13
                                      try clear c14
                                      try clear c15
                                      try clear c35
                                      try clear c40
                                      try clear c41
                                      try clear p64
                                      try clear c107
                                      try clear c109
                                      try clear c109b0
                                      try clear c109b1
                                      try clear c109b2
                                      try clear c110
                                      try clear c110b0
                                      try clear c110b1
                                      try clear c110b2
                                      try clear c111
                                      try clear c111b0
                                      try clear c111b1
                                      try clear c111b2
                                      try clear c120
                                      try clear c122
                                      try clear c122b0
                                      try clear c122b1
                                      try clear c122b2
                                      try clear c123
                                      try clear c123b0
                                      try clear c123b1
                                      try clear c123b2
                                      try clear c124
                                      try clear c124b0
                                      try clear c124b1
                                      try clear c124b2
                                      try clear c134
                                      try clear c134b0
                                      try clear c134b1
                                      try clear c147
                                      try clear c147b0
                                      try clear c147b1
                                      try clear c149
                                      try clear c149b0
                                      try clear c149b1
                                      try clear c151
                                      try clear c151b0
                                      try clear c151b1
                                      try clear c153
                                      try clear c153b0
                                      try clear c153b1
                                      try clear hcz113_0
                                      try clear hcz113_1
                                      try clear hcz113_2
                                      try clear hcz113_3
                                      try clear hcz113_4
                                      try clear hcz113_5
                                      try clear hcz113_6
                                      try clear hcz113_7
                                      try clear hcz126_0
                                      try clear hcz126_1
                                      try clear hcz126_2
                                      try clear hcz126_3
                                      try clear hcz126_4
                                      try clear hcz126_5
                                      try clear hcz126_6
                                      try clear hcz126_7
                                      try clear hcz128_0
                                      try clear hcz128_1
                                      try clear hcz128_2
                                      try clear hcz128_3
                                      try clear hcz128_4
                                      try clear hcz128_5
                                      try clear hcz128_6
                                      try clear hcz128_7
                                      try clear hcz136_0
                                      try clear hcz136_1
                                      try clear hcz136_2
                                      try clear hcz136_3
                                      try clear hcz136_4
                                      try clear hcz136_5
                                      try clear hcz136_6
                                      try clear hcz136_7
                                      try clear hcz138_0
                                      try clear hcz138_1
                                      try clear hcz138_2
                                      try clear hcz138_3
                                      try clear hcz138_4
                                      try clear hcz138_5
                                      try clear hcz138_6
                                      try clear hcz138_7
                                      try clear hcz144_0
                                      try clear hcz144_1
                                      try clear hcz144_2
                                      try clear hcz144_3
                                      try clear hcz144_4
                                      try clear hcz144_5
                                      try clear hcz144_6
                                      try clear hcz144_7
                                      try clear hcz146_0
                                      try clear hcz146_1
                                      try clear hcz146_2
                                      try clear hcz146_3
                                      try clear hcz146_4
                                      try clear hcz146_5
                                      try clear hcz146_6
                                      try clear hcz146_7
                                      try clear hcz148_0
                                      try clear hcz148_1
                                      try clear hcz148_2
                                      try clear hcz148_3
                                      try clear hcz148_4
                                      try clear hcz148_5
                                      try clear hcz148_6
                                      try clear hcz148_7
                                      try clear hcz150_0
                                      try clear hcz150_1
                                      try clear hcz150_2
                                      try clear hcz150_3
                                      try clear hcz150_4
                                      try clear hcz150_5
                                      try clear hcz150_6
                                      try clear hcz150_7
                                      try clear hcz152_0
                                      try clear hcz152_1
                                      try clear hcz152_2
                                      try clear hcz152_3
                                      try clear hcz152_4
                                      try clear hcz152_5
                                      try clear hcz152_6
                                      try clear hcz152_7
                                      try clear hcz154_0
                                      try clear hcz154_1
                                      try clear hcz154_2
                                      try clear hcz154_3
                                      try clear hcz154_4
                                      try clear hcz154_5
                                      try clear hcz154_6
                                      try clear hcz154_7
                                      try clear hcz155_0
                                      try clear hcz155_1
                                      try clear hcz155_2
                                      try clear hcz155_3
                                      try clear hcz155_4
                                      try clear hcz155_5
                                      try clear hcz155_6
                                      try clear hcz155_7
                                      try clear hcz66_1
                                      try clear hcz66_2
                                      try clear hcz66_3
                                      try clear hcz66_4
                                      try clear hcz66_5
                                      try clear hcz66_6
                                      try clear hcz66_7
                                      try clear hcz68_0
                                      try clear hcz68_1
                                      try clear hcz68_2
                                      try clear hcz68_3
                                      try clear hcz68_4
                                      try clear hcz68_5
                                      try clear hcz68_6
                                      try clear hcz68_7
                                      try clear hcz75_0
                                      try clear hcz75_1
                                      try clear hcz75_2
                                      try clear hcz75_3
                                      try clear hcz75_4
                                      try clear hcz75_5
                                      try clear hcz75_6
                                      try clear hcz75_7
                                      try clear hcz77_0
                                      try clear hcz77_1
                                      try clear hcz77_2
                                      try clear hcz77_3
                                      try clear hcz77_4
                                      try clear hcz77_5
                                      try clear hcz77_6
                                      try clear hcz77_7
                                      try clear hcz79_0
                                      try clear hcz79_1
                                      try clear hcz79_2
                                      try clear hcz79_3
                                      try clear hcz79_4
                                      try clear hcz79_5
                                      try clear hcz79_6
                                      try clear hcz79_7
                                      try clear hcz82_0
                                      try clear hcz82_1
                                      try clear hcz82_2
                                      try clear hcz82_3
                                      try clear hcz82_4
                                      try clear hcz82_5
                                      try clear hcz82_6
                                      try clear hcz82_7
                                      try clear hcz84_0
                                      try clear hcz84_1
                                      try clear hcz84_2
                                      try clear hcz84_3
                                      try clear hcz84_4
                                      try clear hcz84_5
                                      try clear hcz84_6
                                      try clear hcz84_7
                                      try clear hcz85_0
                                      try clear hcz85_1
                                      try clear hcz85_2
                                      try clear hcz85_3
                                      try clear hcz85_4
                                      try clear hcz85_5
                                      try clear hcz85_6
                                      try clear hcz85_7
                                      try clear hcz95_0
                                      try clear hcz95_1
                                      try clear hcz95_2
                                      try clear hcz95_3
                                      try clear hcz95_4
                                      try clear hcz95_5
                                      try clear hcz95_6
                                      try clear hcz95_7
                                      try clear hfz102_0
                                      try clear hfz102_1
                                      try clear hfz102_2
                                      try clear hfz102_3
                                      try clear hfz102_4
                                      try clear hfz102_5
                                      try clear hfz102_6
                                      try clear hfz102_7
                                      try clear hfz105_0
                                      try clear hfz105_1
                                      try clear hfz105_2
                                      try clear hfz105_3
                                      try clear hfz105_4
                                      try clear hfz105_5
                                      try clear hfz105_6
                                      try clear hfz105_7
                                      try clear hfz106_0
                                      try clear hfz106_1
                                      try clear hfz106_2
                                      try clear hfz106_3
                                      try clear hfz106_4
                                      try clear hfz106_5
                                      try clear hfz106_6
                                      try clear hfz106_7
                                      try clear hfz113_0
                                      try clear hfz113_1
                                      try clear hfz113_2
                                      try clear hfz113_3
                                      try clear hfz113_4
                                      try clear hfz113_5
                                      try clear hfz113_6
                                      try clear hfz113_7
                                      try clear hfz126_0
                                      try clear hfz126_1
                                      try clear hfz126_2
                                      try clear hfz126_3
                                      try clear hfz126_4
                                      try clear hfz126_5
                                      try clear hfz126_6
                                      try clear hfz126_7
                                      try clear hfz128_0
                                      try clear hfz128_1
                                      try clear hfz128_2
                                      try clear hfz128_3
                                      try clear hfz128_4
                                      try clear hfz128_5
                                      try clear hfz128_6
                                      try clear hfz128_7
                                      try clear hfz12_0
                                      try clear hfz12_1
                                      try clear hfz12_2
                                      try clear hfz12_3
                                      try clear hfz12_4
                                      try clear hfz12_5
                                      try clear hfz12_6
                                      try clear hfz12_7
                                      try clear hfz136_0
                                      try clear hfz136_1
                                      try clear hfz136_2
                                      try clear hfz136_3
                                      try clear hfz136_4
                                      try clear hfz136_5
                                      try clear hfz136_6
                                      try clear hfz136_7
                                      try clear hfz138_0
                                      try clear hfz138_1
                                      try clear hfz138_2
                                      try clear hfz138_3
                                      try clear hfz138_4
                                      try clear hfz138_5
                                      try clear hfz138_6
                                      try clear hfz138_7
                                      try clear hfz144_0
                                      try clear hfz144_1
                                      try clear hfz144_2
                                      try clear hfz144_3
                                      try clear hfz144_4
                                      try clear hfz144_5
                                      try clear hfz144_6
                                      try clear hfz144_7
                                      try clear hfz146_0
                                      try clear hfz146_1
                                      try clear hfz146_2
                                      try clear hfz146_3
                                      try clear hfz146_4
                                      try clear hfz146_5
                                      try clear hfz146_6
                                      try clear hfz146_7
                                      try clear hfz148_0
                                      try clear hfz148_1
                                      try clear hfz148_2
                                      try clear hfz148_3
                                      try clear hfz148_4
                                      try clear hfz148_5
                                      try clear hfz148_6
                                      try clear hfz148_7
                                      try clear hfz150_0
                                      try clear hfz150_1
                                      try clear hfz150_2
                                      try clear hfz150_3
                                      try clear hfz150_4
                                      try clear hfz150_5
                                      try clear hfz150_6
                                      try clear hfz150_7
                                      try clear hfz152_0
                                      try clear hfz152_1
                                      try clear hfz152_2
                                      try clear hfz152_3
                                      try clear hfz152_4
                                      try clear hfz152_5
                                      try clear hfz152_6
                                      try clear hfz152_7
                                      try clear hfz154_0
                                      try clear hfz154_1
                                      try clear hfz154_2
                                      try clear hfz154_3
                                      try clear hfz154_4
                                      try clear hfz154_5
                                      try clear hfz154_6
                                      try clear hfz154_7
                                      try clear hfz155_0
                                      try clear hfz155_1
                                      try clear hfz155_2
                                      try clear hfz155_3
                                      try clear hfz155_4
                                      try clear hfz155_5
                                      try clear hfz155_6
                                      try clear hfz155_7
                                      try clear hfz16_0
                                      try clear hfz16_1
                                      try clear hfz16_2
                                      try clear hfz16_3
                                      try clear hfz16_4
                                      try clear hfz16_5
                                      try clear hfz16_6
                                      try clear hfz16_7
                                      try clear hfz18_0
                                      try clear hfz18_1
                                      try clear hfz18_2
                                      try clear hfz18_3
                                      try clear hfz18_4
                                      try clear hfz18_5
                                      try clear hfz18_6
                                      try clear hfz18_7
                                      try clear hfz19_0
                                      try clear hfz19_1
                                      try clear hfz19_2
                                      try clear hfz19_3
                                      try clear hfz19_4
                                      try clear hfz19_5
                                      try clear hfz19_6
                                      try clear hfz19_7
                                      try clear hfz23_0
                                      try clear hfz23_1
                                      try clear hfz23_2
                                      try clear hfz23_3
                                      try clear hfz23_4
                                      try clear hfz23_5
                                      try clear hfz23_6
                                      try clear hfz23_7
                                      try clear hfz30_0
                                      try clear hfz30_1
                                      try clear hfz30_2
                                      try clear hfz30_3
                                      try clear hfz30_4
                                      try clear hfz30_5
                                      try clear hfz30_6
                                      try clear hfz30_7
                                      try clear hfz41_0
                                      try clear hfz41_1
                                      try clear hfz41_2
                                      try clear hfz41_3
                                      try clear hfz41_4
                                      try clear hfz41_5
                                      try clear hfz41_6
                                      try clear hfz41_7
                                      try clear hfz53_0
                                      try clear hfz53_1
                                      try clear hfz53_2
                                      try clear hfz53_3
                                      try clear hfz53_4
                                      try clear hfz53_5
                                      try clear hfz53_6
                                      try clear hfz53_7
                                      try clear hfz55_0
                                      try clear hfz55_1
                                      try clear hfz55_2
                                      try clear hfz55_3
                                      try clear hfz55_4
                                      try clear hfz55_5
                                      try clear hfz55_6
                                      try clear hfz55_7
                                      try clear hfz64_0
                                      try clear hfz64_1
                                      try clear hfz64_2
                                      try clear hfz64_3
                                      try clear hfz64_4
                                      try clear hfz64_5
                                      try clear hfz64_6
                                      try clear hfz64_7
                                      try clear hfz66_0
                                      try clear hfz66_1
                                      try clear hfz66_2
                                      try clear hfz66_3
                                      try clear hfz66_4
                                      try clear hfz66_5
                                      try clear hfz66_6
                                      try clear hfz66_7
                                      try clear hfz68_0
                                      try clear hfz68_1
                                      try clear hfz68_2
                                      try clear hfz68_3
                                      try clear hfz68_4
                                      try clear hfz68_5
                                      try clear hfz68_6
                                      try clear hfz68_7
                                      try clear hfz75_0
                                      try clear hfz75_1
                                      try clear hfz75_2
                                      try clear hfz75_3
                                      try clear hfz75_4
                                      try clear hfz75_5
                                      try clear hfz75_6
                                      try clear hfz75_7
                                      try clear hfz77_0
                                      try clear hfz77_1
                                      try clear hfz77_2
                                      try clear hfz77_3
                                      try clear hfz77_4
                                      try clear hfz77_5
                                      try clear hfz77_6
                                      try clear hfz77_7
                                      try clear hfz79_0
                                      try clear hfz79_1
                                      try clear hfz79_2
                                      try clear hfz79_3
                                      try clear hfz79_4
                                      try clear hfz79_5
                                      try clear hfz79_6
                                      try clear hfz79_7
                                      try clear hfz82_0
                                      try clear hfz82_1
                                      try clear hfz82_2
                                      try clear hfz82_3
                                      try clear hfz82_4
                                      try clear hfz82_5
                                      try clear hfz82_6
                                      try clear hfz82_7
                                      try clear hfz84_0
                                      try clear hfz84_1
                                      try clear hfz84_2
                                      try clear hfz84_3
                                      try clear hfz84_4
                                      try clear hfz84_5
                                      try clear hfz84_6
                                      try clear hfz84_7
                                      try clear hfz85_0
                                      try clear hfz85_1
                                      try clear hfz85_2
                                      try clear hfz85_3
                                      try clear hfz85_4
                                      try clear hfz85_5
                                      try clear hfz85_6
                                      try clear hfz85_7
                                      try clear hfz95_0
                                      try clear hfz95_1
                                      try clear hfz95_2
                                      try clear hfz95_3
                                      try clear hfz95_4
                                      try clear hfz95_5
                                      try clear hfz95_6
                                      try clear hfz95_7
                                      try clear p2
                                      try clear p6
                                      try clear p64
                                      obtain ⟨kq, x166_142, rfl, HA, HJ142, BK102, HB⟩ := hcut
                                      cases kq with
                                      | zero => exact absurd HA.out (by simp [asm_Print.j3])
                                      | succ kj142 =>
                                        have H := HA.out
                                        clear HA
                                        simp only [asm_Print.j3] at H
                                        by_cases c156 : x166_142 = true
                                        · subst c156
                                          have H1 : (some t104) = some r := by rw [if_pos rfl] at H; exact H
                                          clear H
                                          have H := H1
                                          clear H1
                                          obtain rfl := Option.some.inj H
                                          go_wp2
                                          go_ret
                                          exact ⟨by first | rfl | (simp [errW_none, errW_some] <;> rfl) | (simp [*, errW_none, errW_some] <;> rfl), by repeat (first | (with_reducible first | exact HB.out | apply below_alloc | apply pw_below_drewN | apply below_drew1 | refine below_set ?_ GE102.out) | exact HB.out)⟩
                                        · replace c156 := Bool.eq_false_iff.mpr c156
                                          subst c156
                                          have H1 : ((asm_numbered.f a0_0).bind fun t158 => (if t158 = true then ((asm_join.f t104 (([t105, t106, t108] : List ByteArray))).bind fun t162 => (some t162)) else ((asm_join.f t104 (([t105, t106, t107] : List ByteArray))).bind fun t166 => (some t166)))) = some r := by rw [if_neg (show ¬ (false = true) by decide)] at H; exact H
                                          clear H
                                          have H := H1
                                          clear H1
                                          replace H := Option.bind_eq_some_iff.mp H
                                          obtain ⟨t158, A1570, H⟩ := H
                                          replace H : (if t158 = true then ((asm_join.f t104 (([t105, t106, t108] : List ByteArray))).bind fun t162 => (some t162)) else ((asm_join.f t104 (([t105, t106, t107] : List ByteArray))).bind fun t166 => (some t166))) = some r := H
                                          have A157 := Aside0.mk A1570
                                          clear A1570
                                          by_cases c158 : t158 = true
                                          · subst c158
                                            have H1 : ((asm_join.f t104 (([t105, t106, t108] : List ByteArray))).bind fun t162 => (some t162)) = some r := by rw [if_pos rfl] at H; exact H
                                            clear H
                                            have H := H1
                                            clear H1
                                            obtain ⟨y159, hy159⟩ : ∃ y_ : List ByteArray, y_ = (([t105, t106, t108] : List ByteArray)) := ⟨_, rfl⟩
                                            replace H : ((asm_join.f t104 y159).bind fun t162 => (some t162)) = some r := by first | (rw [hy159]; with_reducible exact H) | (have H2_ := (Option.bind_some _ _).symm.trans H; rw [hy159]; with_reducible exact H2_) | (have H2_ := (Option.bind_some _ _).symm.trans H; with_reducible exact H2_) | with_reducible exact H | (rw [hy159]; exact H) | exact H
                                            have Ny159 := Aside0.mk hy159
                                            clear hy159
                                            replace H := Option.bind_eq_some_iff.mp H
                                            obtain ⟨t162, A1590, H⟩ := H
                                            replace H : (some t162) = some r := H
                                            have A159 := Aside0.mk A1590
                                            clear A1590
                                            obtain rfl := Option.some.inj H
                                            have hcz160_0 : wc.cell? ⟨gb102, 0, none⟩ = some (.int .i64 a0_0) := (blk_cell BK102.out 0).trans rfl
                                            have hcz160_1 : wc.cell? ⟨gb102, 1, none⟩ = some (.int .i64 a0_1) := (blk_cell BK102.out 1).trans rfl
                                            have hcz160_2 : wc.cell? ⟨gb102, 2, none⟩ = some (.int .i64 a0_2) := (blk_cell BK102.out 2).trans rfl
                                            have hcz160_3 : wc.cell? ⟨gb102, 3, none⟩ = some (.int .i64 a0_3) := (blk_cell BK102.out 3).trans rfl
                                            have hcz160_4 : wc.cell? ⟨gb102, 4, none⟩ = some (.int .i64 a0_4) := (blk_cell BK102.out 4).trans rfl
                                            have hcz160_5 : wc.cell? ⟨gb102, 5, none⟩ = some (.int .i64 a0_5) := (blk_cell BK102.out 5).trans rfl
                                            have hcz160_6 : wc.cell? ⟨gb102, 6, none⟩ = some (.bool a0_6) := (blk_cell BK102.out 6).trans rfl
                                            have hcz160_7 : wc.cell? ⟨gb102, 7, none⟩ = some (.bool a0_7) := (blk_cell BK102.out 7).trans rfl
                                            have hfz160_0 := blk_frozen BK102.out 0
                                            have hfz160_1 := blk_frozen BK102.out 1
                                            have hfz160_2 := blk_frozen BK102.out 2
                                            have hfz160_3 := blk_frozen BK102.out 3
                                            have hfz160_4 := blk_frozen BK102.out 4
                                            have hfz160_5 := blk_frozen BK102.out 5
                                            have hfz160_6 := blk_frozen BK102.out 6
                                            have hfz160_7 := blk_frozen BK102.out 7
                                            go_wp2_with (first | ((with_reducible refine gate_callee (f := 42) rfl ?_); refine goesL_ (some 194) rfl rfl Tryd.func42 (by kernel_rfl) rfl #[.int .i64 a0_0] rfl (by (try simp only [List.map_toArray, List.map_cons, List.map_nil]); first | done | rfl | (simp only [List.length_drop, List.length_take]; rfl)) ?_; (with_reducible refine (asm_numbered.calls a0_0 true _ A157.out).mono ?_); rintro e w' ⟨rfl, ⟨nd, rfl⟩⟩; refine ⟨_, rfl, ?_⟩) | ((with_reducible refine gate_dst (N := 199) rfl ?_); refine Kd.R_lit Kd.string _ 9 ?hg (N := 199) ?hd (xs := ([t105, t106, t108] : List ByteArray)) (inner := [.string t105, .string t106, .string t108]) (ok := fun _ => True) (okp := fun _ => True) ?hr ?hp (fun _ hk => hk) trivial (Below.refl _ _) (Nat.le_refl _) (by simp) ?_; (case hd => rfl); (case hg => rfl); (case hr => first | (go_simp; done) | (go_simp; rfl)); (case hp => exact (Reps.one (show Kd.M Kd.string _ _ _ t105 [.string t105] from rfl) (Reps.one (show Kd.M Kd.string _ _ _ t106 [.string t106] from rfl) (Reps.one (show Kd.M Kd.string _ _ _ t108 [.string t108] from rfl) (Reps.none _ _))))); intro v160 w161 ho162 hb hg_ hnew_; clear hg_ hnew_; (first | rw [← Ny159.out] at ho162 | (simp only [Int.reduceToNat] at ho162; rw [← Ny159.out] at ho162)); have n0_ := Aside0.mk (Kd.R_lower ho162 (below_size (by repeat (first | (with_reducible first | exact HB.out | apply below_alloc | apply pw_below_drewN | apply below_drew1 | refine below_set ?_ GE102.out) | exact HB.out)))); have n1_ := Aside0.mk (blk_below (g := gb102) (o := .cells #[.int .i64 a0_0, .int .i64 a0_1, .int .i64 a0_2, .int .i64 a0_3, .int .i64 a0_4, .int .i64 a0_5, .bool a0_6, .bool a0_7] 24 (0, 0)) (by (with_reducible repeat (first | refine blk_drewN ?_ _ | refine blk_drew ?_ | refine blk_alloc ?_ _)); exact BK102.out) hb); have n2_ := Aside0.mk (below_step (by repeat (first | (with_reducible first | exact HB.out | apply below_alloc | apply pw_below_drewN | apply below_drew1 | refine below_set ?_ GE102.out) | exact HB.out)) hb); clear BK102; clear HB; have HO161 := n0_; have BK102 := n1_; have HB := n2_; clear n0_ n1_ n2_; clear hb ho162; obtain ⟨Ao163, co163, eo163⟩ := Kd.R_slice HO161.out; subst eo163) | ((with_reducible refine gate_callee (f := 35) rfl ?_); refine goesL_ (some 200) rfl rfl Tryd.func35 (by kernel_rfl) rfl #[.string t104, .slice Ao163 y159.length co163] rfl (by (try simp only [List.map_toArray, List.map_cons, List.map_nil]); first | done | rfl | (simp only [List.length_drop, List.length_take]; rfl)) ?_; (with_reducible refine (asm_join.calls t104 _ _ y159 t162 _ ?side1 ?side2 A159.out).mono ?_); (case side1 => repeat (first | exact (Kd.R_reads' HO161.out).2.2 | (with_reducible refine Kd.C_alloc ?_ _) | (with_reducible refine Kd.C_drewN ?_ _) | (with_reducible refine Kd.C_drew ?_))); (case side2 => exact (Kd.R_reads' HO161.out).2.1); rintro e w164 ⟨rfl, hb⟩; refine ⟨_, rfl, ?_⟩; have n0_ := Aside0.mk (Kd.R_below (by (with_reducible repeat (first | apply Kd.R_alloc | apply Kd.R_drewN | apply Kd.R_drew)); exact HO161.out) hb); have n1_ := Aside0.mk (blk_below (g := gb102) (o := .cells #[.int .i64 a0_0, .int .i64 a0_1, .int .i64 a0_2, .int .i64 a0_3, .int .i64 a0_4, .int .i64 a0_5, .bool a0_6, .bool a0_7] 24 (0, 0)) (by (with_reducible repeat (first | refine blk_drewN ?_ _ | refine blk_drew ?_ | refine blk_alloc ?_ _)); exact BK102.out) hb); have n2_ := Aside0.mk (below_step (by repeat (first | (with_reducible first | exact HB.out | apply below_alloc | apply pw_below_drewN | apply below_drew1 | refine below_set ?_ GE102.out) | exact HB.out)) hb); clear HO161; clear BK102; clear HB; have HO161 := n0_; have BK102 := n1_; have HB := n2_; clear n0_ n1_ n2_; (try clear hb); (try clear hb2); (try clear hk); (try clear hi)))
                                            go_ret
                                            exact ⟨by first | rfl | (simp [errW_none, errW_some] <;> rfl) | (simp [*, errW_none, errW_some] <;> rfl), by repeat (first | (with_reducible first | exact HB.out | apply below_alloc | apply pw_below_drewN | apply below_drew1 | refine below_set ?_ GE102.out) | exact HB.out)⟩
                                          · replace c158 := Bool.eq_false_iff.mpr c158
                                            subst c158
                                            have H1 : ((asm_join.f t104 (([t105, t106, t107] : List ByteArray))).bind fun t166 => (some t166)) = some r := by rw [if_neg (show ¬ (false = true) by decide)] at H; exact H
                                            clear H
                                            have H := H1
                                            clear H1
                                            obtain ⟨y163, hy163⟩ : ∃ y_ : List ByteArray, y_ = (([t105, t106, t107] : List ByteArray)) := ⟨_, rfl⟩
                                            replace H : ((asm_join.f t104 y163).bind fun t166 => (some t166)) = some r := by first | (rw [hy163]; with_reducible exact H) | (have H2_ := (Option.bind_some _ _).symm.trans H; rw [hy163]; with_reducible exact H2_) | (have H2_ := (Option.bind_some _ _).symm.trans H; with_reducible exact H2_) | with_reducible exact H | (rw [hy163]; exact H) | exact H
                                            have Ny163 := Aside0.mk hy163
                                            clear hy163
                                            replace H := Option.bind_eq_some_iff.mp H
                                            obtain ⟨t166, A1650, H⟩ := H
                                            replace H : (some t166) = some r := H
                                            have A165 := Aside0.mk A1650
                                            clear A1650
                                            obtain rfl := Option.some.inj H
                                            have hcz166_0 : wc.cell? ⟨gb102, 0, none⟩ = some (.int .i64 a0_0) := (blk_cell BK102.out 0).trans rfl
                                            have hcz166_1 : wc.cell? ⟨gb102, 1, none⟩ = some (.int .i64 a0_1) := (blk_cell BK102.out 1).trans rfl
                                            have hcz166_2 : wc.cell? ⟨gb102, 2, none⟩ = some (.int .i64 a0_2) := (blk_cell BK102.out 2).trans rfl
                                            have hcz166_3 : wc.cell? ⟨gb102, 3, none⟩ = some (.int .i64 a0_3) := (blk_cell BK102.out 3).trans rfl
                                            have hcz166_4 : wc.cell? ⟨gb102, 4, none⟩ = some (.int .i64 a0_4) := (blk_cell BK102.out 4).trans rfl
                                            have hcz166_5 : wc.cell? ⟨gb102, 5, none⟩ = some (.int .i64 a0_5) := (blk_cell BK102.out 5).trans rfl
                                            have hcz166_6 : wc.cell? ⟨gb102, 6, none⟩ = some (.bool a0_6) := (blk_cell BK102.out 6).trans rfl
                                            have hcz166_7 : wc.cell? ⟨gb102, 7, none⟩ = some (.bool a0_7) := (blk_cell BK102.out 7).trans rfl
                                            have hfz166_0 := blk_frozen BK102.out 0
                                            have hfz166_1 := blk_frozen BK102.out 1
                                            have hfz166_2 := blk_frozen BK102.out 2
                                            have hfz166_3 := blk_frozen BK102.out 3
                                            have hfz166_4 := blk_frozen BK102.out 4
                                            have hfz166_5 := blk_frozen BK102.out 5
                                            have hfz166_6 := blk_frozen BK102.out 6
                                            have hfz166_7 := blk_frozen BK102.out 7
                                            go_wp2_with (first | ((with_reducible refine gate_callee (f := 42) rfl ?_); refine goesL_ (some 194) rfl rfl Tryd.func42 (by kernel_rfl) rfl #[.int .i64 a0_0] rfl (by (try simp only [List.map_toArray, List.map_cons, List.map_nil]); first | done | rfl | (simp only [List.length_drop, List.length_take]; rfl)) ?_; (with_reducible refine (asm_numbered.calls a0_0 false _ A157.out).mono ?_); rintro e w' ⟨rfl, ⟨nd, rfl⟩⟩; refine ⟨_, rfl, ?_⟩) | ((with_reducible refine gate_dst (N := 205) rfl ?_); refine Kd.R_lit Kd.string _ 9 ?hg (N := 205) ?hd (xs := ([t105, t106, t107] : List ByteArray)) (inner := [.string t105, .string t106, .string t107]) (ok := fun _ => True) (okp := fun _ => True) ?hr ?hp (fun _ hk => hk) trivial (Below.refl _ _) (Nat.le_refl _) (by simp) ?_; (case hd => rfl); (case hg => rfl); (case hr => first | (go_simp; done) | (go_simp; rfl)); (case hp => exact (Reps.one (show Kd.M Kd.string _ _ _ t105 [.string t105] from rfl) (Reps.one (show Kd.M Kd.string _ _ _ t106 [.string t106] from rfl) (Reps.one (show Kd.M Kd.string _ _ _ t107 [.string t107] from rfl) (Reps.none _ _))))); intro v164 w167 ho168 hb hg_ hnew_; clear hg_ hnew_; (first | rw [← Ny163.out] at ho168 | (simp only [Int.reduceToNat] at ho168; rw [← Ny163.out] at ho168)); have n0_ := Aside0.mk (Kd.R_lower ho168 (below_size (by repeat (first | (with_reducible first | exact HB.out | apply below_alloc | apply pw_below_drewN | apply below_drew1 | refine below_set ?_ GE102.out) | exact HB.out)))); have n1_ := Aside0.mk (blk_below (g := gb102) (o := .cells #[.int .i64 a0_0, .int .i64 a0_1, .int .i64 a0_2, .int .i64 a0_3, .int .i64 a0_4, .int .i64 a0_5, .bool a0_6, .bool a0_7] 24 (0, 0)) (by (with_reducible repeat (first | refine blk_drewN ?_ _ | refine blk_drew ?_ | refine blk_alloc ?_ _)); exact BK102.out) hb); have n2_ := Aside0.mk (below_step (by repeat (first | (with_reducible first | exact HB.out | apply below_alloc | apply pw_below_drewN | apply below_drew1 | refine below_set ?_ GE102.out) | exact HB.out)) hb); clear BK102; clear HB; have HO165 := n0_; have BK102 := n1_; have HB := n2_; clear n0_ n1_ n2_; clear hb ho168; obtain ⟨Ao169, co169, eo169⟩ := Kd.R_slice HO165.out; subst eo169) | ((with_reducible refine gate_callee (f := 35) rfl ?_); refine goesL_ (some 206) rfl rfl Tryd.func35 (by kernel_rfl) rfl #[.string t104, .slice Ao169 y163.length co169] rfl (by (try simp only [List.map_toArray, List.map_cons, List.map_nil]); first | done | rfl | (simp only [List.length_drop, List.length_take]; rfl)) ?_; (with_reducible refine (asm_join.calls t104 _ _ y163 t166 _ ?side1 ?side2 A165.out).mono ?_); (case side1 => repeat (first | exact (Kd.R_reads' HO165.out).2.2 | (with_reducible refine Kd.C_alloc ?_ _) | (with_reducible refine Kd.C_drewN ?_ _) | (with_reducible refine Kd.C_drew ?_))); (case side2 => exact (Kd.R_reads' HO165.out).2.1); rintro e w170 ⟨rfl, hb⟩; refine ⟨_, rfl, ?_⟩; have n0_ := Aside0.mk (Kd.R_below (by (with_reducible repeat (first | apply Kd.R_alloc | apply Kd.R_drewN | apply Kd.R_drew)); exact HO165.out) hb); have n1_ := Aside0.mk (blk_below (g := gb102) (o := .cells #[.int .i64 a0_0, .int .i64 a0_1, .int .i64 a0_2, .int .i64 a0_3, .int .i64 a0_4, .int .i64 a0_5, .bool a0_6, .bool a0_7] 24 (0, 0)) (by (with_reducible repeat (first | refine blk_drewN ?_ _ | refine blk_drew ?_ | refine blk_alloc ?_ _)); exact BK102.out) hb); have n2_ := Aside0.mk (below_step (by repeat (first | (with_reducible first | exact HB.out | apply below_alloc | apply pw_below_drewN | apply below_drew1 | refine below_set ?_ GE102.out) | exact HB.out)) hb); clear HO165; clear BK102; clear HB; have HO165 := n0_; have BK102 := n1_; have HB := n2_; clear n0_ n1_ n2_; (try clear hb); (try clear hb2); (try clear hk); (try clear hi)))
                                            go_ret
                                            exact ⟨by first | rfl | (simp [errW_none, errW_some] <;> rfl) | (simp [*, errW_none, errW_some] <;> rfl), by repeat (first | (with_reducible first | exact HB.out | apply below_alloc | apply pw_below_drewN | apply below_drew1 | refine below_set ?_ GE102.out) | exact HB.out)⟩
  · rw [if_neg c3] at H
    have c3b0 : (t103 == 0) = false := beq_eq_false_iff_ne.mpr c3
    have c3b1 : (t103 != 0) = true := bne_iff_ne.mpr c3
    obtain rfl := Option.some.inj H
    go_enter Tryd.func10, Tryd.ntmps10
    go_wp2_with (first | ((with_reducible refine gate_dst (N := 1) rfl ?_); refine box_event ?hg (N := 1) ?hd (cs := #[.int .i64 a0_0, .int .i64 a0_1, .int .i64 a0_2, .int .i64 a0_3, .int .i64 a0_4, .int .i64 a0_5, .bool a0_6, .bool a0_7]) (t := 24) ?hr ?_; (case hd => rfl); (case hg => rfl); (case hr => first | (go_simp; done) | (go_simp; rfl)); intro gb102 hg w171 hbox hb; have n0_ := Aside0.mk (below_step (by repeat (first | (with_reducible first | exact HB.out | apply below_alloc | apply pw_below_drewN | apply below_drew1) | exact HB.out)) hb); have n1_ := Aside0.mk (hbox); have n2_ := Aside0.mk ((by rw [hg]; exact (below_size (by repeat (first | (with_reducible first | exact HB.out | apply below_alloc | apply pw_below_drewN | apply below_drew1) | exact HB.out))) : w.heap.size ≤ gb102)); have n3_ := Aside0.mk ((by rw [hg]; exact (below_size (by repeat (first | (with_reducible first | exact HB.out | apply below_alloc | apply pw_below_drewN | apply below_drew1) | exact HB.out))) : w.heap.size ≤ gb102)); clear HB; have HB := n0_; have BK102 := n1_; have GW102 := n2_; have GE102 := n3_; clear n0_ n1_ n2_ n3_; clear hb hbox hg; have hcz172_0 : w171.cell? ⟨gb102, 0, none⟩ = some (.int .i64 a0_0) := (blk_cell BK102.out 0).trans rfl; have hcz172_1 : w171.cell? ⟨gb102, 1, none⟩ = some (.int .i64 a0_1) := (blk_cell BK102.out 1).trans rfl; have hcz172_2 : w171.cell? ⟨gb102, 2, none⟩ = some (.int .i64 a0_2) := (blk_cell BK102.out 2).trans rfl; have hcz172_3 : w171.cell? ⟨gb102, 3, none⟩ = some (.int .i64 a0_3) := (blk_cell BK102.out 3).trans rfl; have hcz172_4 : w171.cell? ⟨gb102, 4, none⟩ = some (.int .i64 a0_4) := (blk_cell BK102.out 4).trans rfl; have hcz172_5 : w171.cell? ⟨gb102, 5, none⟩ = some (.int .i64 a0_5) := (blk_cell BK102.out 5).trans rfl; have hcz172_6 : w171.cell? ⟨gb102, 6, none⟩ = some (.bool a0_6) := (blk_cell BK102.out 6).trans rfl; have hcz172_7 : w171.cell? ⟨gb102, 7, none⟩ = some (.bool a0_7) := (blk_cell BK102.out 7).trans rfl; have hfz172_0 := blk_frozen BK102.out 0; have hfz172_1 := blk_frozen BK102.out 1; have hfz172_2 := blk_frozen BK102.out 2; have hfz172_3 := blk_frozen BK102.out 3; have hfz172_4 := blk_frozen BK102.out 4; have hfz172_5 := blk_frozen BK102.out 5; have hfz172_6 := blk_frozen BK102.out 6; have hfz172_7 := blk_frozen BK102.out 7) | ((with_reducible refine gate_callee (f := 11) rfl ?_); refine goesL_ (some 10) rfl rfl Tryd.func11 (by kernel_rfl) rfl #[.agg #[.int .i64 a0_0, .int .i64 a0_1, .int .i64 a0_2, .int .i64 a0_3, .int .i64 a0_4, .int .i64 a0_5, .bool a0_6, .bool a0_7]] rfl (by (try simp only [List.map_toArray, List.map_cons, List.map_nil]); first | done | rfl | (simp only [List.length_drop, List.length_take]; rfl)) ?_; (with_reducible refine (inst_Right.calls a0_0 a0_1 a0_2 a0_3 a0_4 a0_5 a0_6 a0_7 t103 _ A2.out).mono ?_); rintro e w173 ⟨rfl, hb⟩; refine ⟨_, rfl, ?_⟩; have n0_ := Aside0.mk (blk_below (g := gb102) (o := .cells #[.int .i64 a0_0, .int .i64 a0_1, .int .i64 a0_2, .int .i64 a0_3, .int .i64 a0_4, .int .i64 a0_5, .bool a0_6, .bool a0_7] 24 (0, 0)) (by (with_reducible repeat (first | refine blk_drewN ?_ _ | refine blk_drew ?_ | refine blk_alloc ?_ _)); exact BK102.out) hb); have n1_ := Aside0.mk (below_step (by repeat (first | (with_reducible first | exact HB.out | apply below_alloc | apply pw_below_drewN | apply below_drew1 | refine below_set ?_ GE102.out) | exact HB.out)) hb); clear BK102; clear HB; have BK102 := n0_; have HB := n1_; clear n0_ n1_; (try clear hb); (try clear hb2); (try clear hk); (try clear hi)))
    go_ret
    exact ⟨by first | rfl | (simp [errW_none, errW_some] <;> rfl) | (simp [*, errW_none, errW_some] <;> rfl), by repeat (first | (with_reducible first | exact HB.out | apply below_alloc | apply pw_below_drewN | apply below_drew1 | refine below_set ?_ GE102.out) | exact HB.out)⟩

end Go.Proofs.YteidojpklpfdeaaDoorX.QA
