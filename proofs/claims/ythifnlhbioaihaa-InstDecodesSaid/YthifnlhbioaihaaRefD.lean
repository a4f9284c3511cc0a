/- The walks of vireoref03: usual, back. -/
import Derived.Test.YthifnlhbioaihaaRefC
namespace Go.Proofs.Ythifnlhbioaihaa
open Go.RowKit
set_option linter.unusedVariables false
set_option linter.unusedSimpArgs false

def UsualPost (x : Int) (w : World) (e : Ending) (w' : World) : Prop :=
  ∃ w1, Below w.heap.size w w1 ∧ e = .returned (.slice (some ⟨w1.heap.size, 0, none⟩) 4 4) ∧
    w1.alloc (.cells #[.int .u64 (get x 15 5), .int .u64 (get x 20 5), .int .u64 (get x 20 12), .int .u64 (get x 12 20)] 65) = w'

set_option maxHeartbeats 1000000 in
theorem usual_any (x : Int) (w : World) (h0 : 0 ≤ x) (h1 : x < 18446744073709551616) :
    Calls Try.prog 48 #[.int .u64 x] w (UsualPost x w) := by
  have HG := hid (fun a n w => rget_any x a n w h0 h1); clear h1
  have hacc := Below.refl w.heap.size w
  go_enter Try.func48, Try.ntmps48
  go_wp2_with (go_at_call 50; refine (HG.out _ _ _).mono ?_; rintro e w' ⟨rfl, hb⟩; replace hacc := hacc.trans (hb.mono hacc.size); clear hb)
  go_ret
  exact ⟨_, hacc, rfl, rfl⟩

def rback (f x : Int) : Int :=
  if f == 1 then wrap64 (rsext (get x 12 20 * 4096) 32)
  else if f == 2 then wrap64 (rsext (get x 31 1 * 1048576 + get x 21 10 * 2 + get x 20 1 * 2048 + get x 12 8 * 4096) 21)
  else if f == 4 then wrap64 (rsext (get x 31 1 * 4096 + get x 25 6 * 32 + get x 8 4 * 2 + get x 7 1 * 2048) 13)
  else if f == 6 then wrap64 (rsext (get x 25 7 * 32 + get x 7 5) 12)
  else if f == 3 || f == 5 then wrap64 (rsext (get x 20 12) 12)
  else if f == 10 then get x 20 12
  else if f == 7 then get x 20 6
  else if f == 8 then get x 20 5
  else if f == 13 then get x 15 5
  else 0

theorem get_b (x a n b : Int) (h : (2 : Int) ^ n.toNat ≤ b) : 0 ≤ get x a n ∧ get x a n < b := ⟨get_nonneg x a n, Int.lt_of_lt_of_le (get_lt_pow x a n) h⟩

set_option maxHeartbeats 4000000 in
set_option maxRecDepth 100000 in
theorem back_any (f x : Int) (w : World) (h0 : 0 ≤ x) (h1 : x < 18446744073709551616) (hf : IsForm f) :
    Calls Try.prog 49 #[.int .i64 f, .int .u64 x] w fun e w' => e = .returned (.int .i64 (rback f x)) ∧ Below w.heap.size w w' := by
  have HG := hid (fun a n w => rget_any x a n w h0 h1)
  have HU := hid (fun w => usual_any x w h0 h1); clear h1
  have b1 := get_b x 12 20 1048576 (by decide)
  have b2 := get_b x 31 1 2 (by decide)
  have b3 := get_b x 21 10 1024 (by decide)
  have b4 := get_b x 20 1 2 (by decide)
  have b5 := get_b x 12 8 256 (by decide)
  have b6 := get_b x 25 6 64 (by decide)
  have b7 := get_b x 8 4 16 (by decide)
  have b8 := get_b x 7 1 2 (by decide)
  have b9 := get_b x 25 7 128 (by decide)
  have b10 := get_b x 7 5 32 (by decide)
  have b11 := get_b x 20 12 4096 (by decide)
  have b12 := get_b x 20 6 64 (by decide)
  have b13 := get_b x 20 5 32 (by decide)
  have b14 := get_b x 15 5 32 (by decide)
  rcases hf with rfl | rfl | rfl | rfl | rfl | rfl | rfl | rfl | rfl | rfl | rfl | rfl | rfl | rfl | rfl | rfl
  all_goals
    go_enter Try.func49, Try.ntmps49
    go_wp2_with fail
    refine (HU.out _).mono ?_
    rintro e w' ⟨w1, hacc1, rfl, rfl⟩
    have hacc : Below w.heap.size w (w1.alloc (.cells #[.int .u64 (get x 15 5), .int .u64 (get x 20 5), .int .u64 (get x 20 12), .int .u64 (get x 12 20)] 65)) := hacc1.alloc hacc1.size _
    clear hacc1
    go_wp2_with (first | (go_at_call 50; refine (HG.out _ _ _).mono ?_; rintro e w' ⟨rfl, hb⟩; replace hacc := hacc.trans (hb.mono hacc.size); clear hb) | (go_at_call 53; refine (rsext_any _ _ _ (by omega) (by omega) (by decide) (by decide)).mono ?_; rintro e w' ⟨rfl, hb⟩; replace hacc := hacc.trans (hb.mono hacc.size); clear hb))
    go_ret
    exact ⟨ret_int (by simp [rback]), hacc⟩

end Go.Proofs.Ythifnlhbioaihaa
