/- The walk of vireolaw03.InstDecodes: it answers true. -/
import Derived.Test.YthifnlhbioaihaaRefI
import Derived.Test.YthifnlhbioaihaaLawBack
namespace Go.Proofs.Ythifnlhbioaihaa
open Go.RowKit
set_option linter.unusedVariables false
set_option linter.unusedSimpArgs false

/-- The program's answer is the document's. -/
theorem same_decoded (W : Nat) (hw : W < 4294967296) (a b : Ins) (c : Int) (ok : Bool) (h : Decoded W a c) (g : RDecoded W b ok) : a = b ∧ ((ok = true ∧ c = 0) ∨ (ok = false ∧ c = 31)) := by
  rcases h with ⟨k, k1, k2, kn, kh, rfl, rfl⟩ | ⟨hn, rfl, rfl⟩
  · rcases g with ⟨m, m1, m2, mn, mh, rfl, rfl⟩ | ⟨gn, rfl, rfl⟩
    · obtain rfl := hit_one W hw k m k1 k2 m1 m2 kh mh
      exact ⟨rfl, .inl ⟨rfl, rfl⟩⟩
    · have := gn k k1 (by omega)
      rw [kh] at this; cases this
  · rcases g with ⟨m, m1, m2, mn, mh, rfl, rfl⟩ | ⟨gn, rfl, rfl⟩
    · have := hn m m1 (by omega)
      rw [mh] at this; cases this
    · exact ⟨rfl, .inr ⟨rfl, rfl⟩⟩

set_option maxHeartbeats 4000000 in
theorem law_decodes (x : Int) (w : World) (h0 : 0 ≤ x) (h1 : x < 4294967296) :
    Calls Try.prog 4 #[.int .u32 x] w fun e w' => e = .returned (.bool true) ∧ Below w.heap.size w w' := by
  have hacc := Below.refl w.heap.size w
  have hg := ins_guard
  go_enter Try.func4, Try.ntmps4
  go_wp2_with fail
  refine (awake_any _).mono ?_
  rintro e w1 ⟨rfl, hb⟩
  replace hacc := hacc.trans (hb.mono hacc.size)
  clear hb
  go_wp2_with fail
  refine (decode_any x _ h0 h1).mono ?_
  rintro e w2 ⟨a, c, hd, rfl, hb⟩
  replace hacc := hacc.trans (hb.mono hacc.size)
  clear hb
  obtain ⟨a0, a1, a2, a3, a4, a5, a6, a7⟩ := a
  dsimp only [Ins.v]
  go_wp2_with fail
  refine (rdecode_any x _ h0 h1).mono ?_
  rintro e w3 ⟨b, ok, gd, rfl, hb⟩
  obtain ⟨W, rfl⟩ := Int.eq_ofNat_of_zero_le h0
  obtain ⟨rfl, hok⟩ := same_decoded W (by omega) _ _ c ok hd gd
  have hcc := bcell hb
  have hz := hb.size
  have hl : w2.heap.size < w3.heap.size := by simp at hz; omega
  have HQ := hid (fun w => eq_ins ⟨a0, a1, a2, a3, a4, a5, a6, a7⟩ ⟨a0, a1, a2, a3, a4, a5, a6, a7⟩ w)
  simp only [decide_true] at HQ
  have hq := HQ.out
  have HB := hid (show Below w.heap.size w w3 from (hacc.alloc hacc.size _).trans (hb.mono (by have := hacc.size; simp; omega)))
  clear hacc gd hd
  dsimp only [Ins.v] at *
  rcases hok with ⟨rfl, rfl⟩ | ⟨rfl, rfl⟩
  all_goals
    go_wp2_with fail
    go_ret
    exact ⟨rfl, HB.out.alloc HB.out.size _⟩

end Go.Proofs.Ythifnlhbioaihaa
