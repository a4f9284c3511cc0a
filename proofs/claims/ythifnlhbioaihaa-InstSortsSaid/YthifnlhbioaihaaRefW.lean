/- The walks of vireoref01: Bits, Word, Get, Sext. -/
import Derived.Test.YthifnlhbioaihaaInst
namespace Go.Proofs.Ythifnlhbioaihaa
open Go.RowKit
set_option linter.unusedVariables false
set_option linter.unusedSimpArgs false

/-- The word of bits, the lowest first. -/
def val : List Int → Int
  | [] => 0
  | b :: r => b + 2 * val r

def IsBit (b : Int) : Prop := b = 0 ∨ b = 1

theorem val_nonneg (l : List Int) (h : ∀ b ∈ l, IsBit b) : 0 ≤ val l ∧ val l < 2 ^ l.length := by
  induction l with
  | nil => simp [val]
  | cons b r ih =>
    have h1 := ih fun c hc => h c (List.mem_cons_of_mem _ hc)
    have h2 : IsBit b := h b List.mem_cons_self
    simp only [val, List.length_cons, Int.pow_succ]
    rcases h2 with rfl | rfl <;> omega

theorem val_lt (l : List Int) (h : ∀ b ∈ l, IsBit b) (hl : l.length ≤ 64) : 0 ≤ val l ∧ val l < 18446744073709551616 := by
  have h1 := val_nonneg l h
  have h2 : 2 ^ l.length ≤ 2 ^ 64 := Nat.pow_le_pow_right (by omega) hl
  rw [pow_toNat] at h1
  omega

def bitAt (x : Int) (i : Nat) : Int := x / 2 ^ i % 2
def bitsOf (x : Int) (n : Nat) : List Int := (List.range n).map (bitAt x)

theorem bitAt_bit (x : Int) (i : Nat) : IsBit (bitAt x i) := by unfold IsBit bitAt; omega
theorem bitsOf_len (x : Int) (n : Nat) : (bitsOf x n).length = n := by simp [bitsOf]
theorem bitsOf_bit (x : Int) (n : Nat) : ∀ b ∈ bitsOf x n, IsBit b := by
  intro b hb
  obtain ⟨i, _, rfl⟩ := List.mem_map.1 hb
  exact bitAt_bit x i
theorem bitsOf_snoc (x : Int) (n : Nat) : bitsOf x (n + 1) = bitsOf x n ++ [bitAt x n] := by simp [bitsOf, List.range_succ]

theorem div_two_pow (x : Int) (k : Nat) : x / 2 ^ k / 2 = x / 2 ^ (k + 1) := by
  rw [Int.pow_succ, Int.ediv_ediv_of_nonneg (Int.le_of_lt (Int.pow_pos (by decide)))]

theorem tdiv_two (y : Int) (h0 : 0 ≤ y) (h1 : y < 18446744073709551616) : IntKind.u64.wrap (y.tdiv 2) = y / 2 := by
  rw [Int.tdiv_eq_ediv_of_nonneg h0, IntKind.wrap_u64]; omega

theorem below_append {B : Nat} {W w w' : World} {e size n : Nat} {v : Value} {xs : List Value} {o : Obj} (hb : Below B W w) (hown : w.ownsRow B e size v n xs) (hB : B ≤ w.heap.size)
    (hg : (w.alloc o).grownBy w' v.ownBlock) : Below B W w' := by
  refine Below.grown (hb.alloc hB o) hg (by simp; omega) ?_
  intro k hk
  rcases hown.2 with ⟨rfl, _⟩ | ⟨g, cap, cur, rfl, hg1, _⟩
  · simp [Value.ownBlock] at hk
  · simp [Value.ownBlock] at hk; omega

theorem int_info : (Try.prog.info? 3).map (fun i => (i.zero, i.size, i.bytes)) = some (some (.int .i64 0), 1, 8) := by kernel_rfl

set_option maxHeartbeats 1600000 in
set_option maxRecDepth 100000 in
theorem bits_any (x : Int) (w : World) (h0 : 0 ≤ x) (h1 : x < 18446744073709551616) :
    Calls Try.prog 54 #[.int .u64 x] w fun e w' =>
      ∃ v, e = .returned v ∧ w'.ownsRow w.heap.size 3 1 v 64 ((bitsOf x 64).map (Value.int .i64)) ∧ Below w.heap.size w w' := by
  obtain ⟨i0, hi, hz0, hz1, hz2⟩ := info_parts int_info
  have H1 := hid h1; clear h1
  go_enter Try.func54, Try.ntmps54
  go_wp2
  go_loopw [0, 3, 4] (fun a v i wr => ∃ k : Nat, k ≤ 64 ∧ i = .int .i64 k ∧ a = .int .u64 (x / 2 ^ k) ∧ wr.ownsRow w.heap.size 3 1 v k ((bitsOf x k).map (Value.int .i64)) ∧ Below w.heap.size w wr)
    (fun _ _ i _ => 64 - (intOf i).toNat)
  case atStart => exact ⟨0, by omega, rfl, by simp, World.ownsRow_nil _ _ _ _, Below.refl _ _⟩
  case round =>
    obtain ⟨k, hk, rfl, rfl, hown, hnx⟩ := hrel
    by_cases hlt : k < 64
    · have hd0 : 0 ≤ x / 2 ^ k := (div_pow_lt x k h0 H1.out).1
      have hb : bitAt x k = x / 2 ^ k % 2 := rfl
      have hs := bitsOf_snoc x k
      have HB := hid hb; clear hb
      have HS := hid hs; clear hs
      go_wp2_with (at_builtin; refine wpList_append_own _ rfl _ _ 68 rfl w.heap.size 3 i0 (.int .i64 0) 1 8 Try.underlying68 hi hz0 hz1 hz2 rfl (by decide) _ _ _ rfl (hown.alloc _) ⟨wr.heap.size, 0, none⟩ 1 1 [.int .i64 (bitAt x k)] rfl rfl ?c1 ?c2 ?c3 ?c4 ?c5 ?_)
      case c1 => rw [HB.out]; exact cell_one_new _ _ _
      case c2 => intro u hu; simp at hu; subst hu; rfl
      case c3 => unfold maxLen; omega
      case c4 => omega
      case c5 => have := hnx.size; simp; omega
      intro v' w1 hown' hgrow _
      have hb1 : Below w.heap.size w w1 := below_append hnx hown (by have := hnx.size; omega) hgrow
      have hown2 : w1.ownsRow w.heap.size 3 1 v' (k + 1) ((bitsOf x (k + 1)).map (Value.int .i64)) := by
        rw [HS.out, List.map_append]; exact hown'
      clear hown' hgrow hown
      go_wp2
      go_roundw
      case rel => exact ⟨k + 1, by omega, by go_num, by rw [tdiv_two _ hd0 (div_pow_lt x k h0 H1.out).2, div_two_pow], hown2, hb1⟩
      case measure => simp [intOf]; omega
    · have e : k = 64 := by omega
      subst e
      go_wp2
      go_ret
      exact ⟨_, rfl, hown, hnx⟩

theorem val_drop (l : List Int) (i : Nat) (h : i < l.length) : val (l.drop i) = l[i] + 2 * val (l.drop (i + 1)) := by
  rw [List.drop_eq_getElem_cons h]; rfl

theorem val_drop_bd (l : List Int) (hb : ∀ b ∈ l, IsBit b) (i : Nat) (hl : l.length ≤ 64) : 0 ≤ val (l.drop i) ∧ val (l.drop i) < 18446744073709551616 :=
  val_lt _ (fun b h => hb b (List.mem_of_mem_drop h)) (by rw [List.length_drop]; omega)

set_option maxHeartbeats 1600000 in
set_option maxRecDepth 100000 in
theorem word_any (g cap n : Nat) (l : List Int) (w : World) (hl : l.length = n) (hn : n ≤ 64) (hcap : cap ≤ maxLen) (hb : ∀ b ∈ l, IsBit b)
    (hc : ∀ j (h : j < l.length), w.cell? ⟨g, j, none⟩ = some (.int .i64 l[j])) :
    Calls Try.prog 55 #[.slice (some ⟨g, 0, none⟩) n cap] w fun e w' => e = .returned (.int .u64 (val l)) ∧ w' = w := by
  unfold maxLen at hcap
  go_enter Try.func55, Try.ntmps55
  go_wp2
  go_loop [3, 4] (fun a i => ∃ k : Nat, k ≤ n ∧ i = .int .i64 ((k : Int) - 1) ∧ a = .int .u64 (val (l.drop k)))
    (fun _ i => (intOf i + 1).toNat)
  case atStart => exact ⟨n, by omega, by go_num, by rw [← hl, List.drop_length]; rfl⟩
  case round =>
    obtain ⟨k, hk, rfl, rfl⟩ := hrel
    rcases Nat.eq_zero_or_pos k with rfl | hpos
    · go_wp2
      go_ret
      exact ⟨ret_int (by simp), rfl⟩
    · obtain ⟨m, rfl⟩ : ∃ m, k = m + 1 := ⟨k - 1, by omega⟩
      have hm : m < l.length := by omega
      have hcell := hc m hm
      have hv := val_drop l m hm
      have hbd := val_drop_bd l hb m (by omega)
      have hbd1 := val_drop_bd l hb (m + 1) (by omega)
      have hbit : IsBit l[m] := hb _ (List.getElem_mem hm)
      have e : (((m + 1 : Nat) : Int) - 1) = (m : Int) := by omega
      rw [e]
      generalize l[m] = c at *
      generalize val (l.drop (m + 1)) = q at *
      have HV := hid hv; clear hv
      have HBD := hid hbd; clear hbd
      have HB1 := hid hbd1; clear hbd1
      have HBIT := hid hbit; clear hbit
      have HC := hid hc; clear hc
      have HH := hid hb; clear hb
      have HL := hid hl; clear hl e
      go_wp2
      refine ⟨⟨m, by omega, rfl, congrArg (Value.int .u64) ?_⟩, by simp [intOf]⟩
      have h1 := HBD.out
      have h2 := HB1.out
      rw [HV.out] at h1 ⊢
      rw [IntKind.wrap_u64, IntKind.wrap_u64, IntKind.wrap_u64]
      rcases HBIT.out with h | h <;> rw [h] at h1 ⊢ <;> omega

/-- Some bits of a word, from a place on. -/
def bitsFrom (x : Int) (a m : Nat) : List Int := (List.range m).map fun i => bitAt x (a + i)
theorem bitsFrom_snoc (x : Int) (a m : Nat) : bitsFrom x a (m + 1) = bitsFrom x a m ++ [bitAt x (a + m)] := by simp [bitsFrom, List.range_succ]
theorem bitsFrom_len (x : Int) (a m : Nat) : (bitsFrom x a m).length = m := by simp [bitsFrom]
theorem bitsFrom_bit (x : Int) (a m : Nat) : ∀ b ∈ bitsFrom x a m, IsBit b := by
  intro b hb
  obtain ⟨i, _, rfl⟩ := List.mem_map.1 hb
  exact bitAt_bit x _

theorem bitsFrom_cons (x : Int) (a m : Nat) : bitsFrom x a (m + 1) = bitAt x a :: bitsFrom x (a + 1) m := by
  simp only [bitsFrom, List.range_succ_eq_map, List.map_cons, List.map_map, Nat.add_zero]
  congr 1
  apply List.map_congr_left
  intro i _
  simp only [Function.comp]
  congr 1
  omega

theorem val_bitsFrom (x : Int) (m : Nat) : ∀ a : Nat, val (bitsFrom x a m) = x / 2 ^ a % 2 ^ m := by
  induction m with
  | zero => intro a; simp [bitsFrom, val, Int.emod_one]
  | succ m ih =>
    intro a
    rw [bitsFrom_cons, val, ih (a + 1), ← div_two_pow]
    unfold bitAt
    generalize x / 2 ^ a = y
    have e : (2 : Int) ^ (m + 1) = 2 * 2 ^ m := by rw [Int.pow_succ]; omega
    rw [e]
    have h2 := Int.emod_def y (2 * 2 ^ m)
    have h3 := Int.emod_def (y / 2) (2 ^ m)
    have h4 : y / (2 * 2 ^ m) = y / 2 / 2 ^ m := by rw [Int.ediv_ediv_of_nonneg (by decide)]
    rw [h2, h3, h4]
    generalize y / 2 / 2 ^ m = q
    have h5 : 2 * 2 ^ m * q = 2 * (2 ^ m * q) := by rw [Int.mul_assoc]
    omega

set_option maxHeartbeats 1600000 in
theorem word_own (B n : Nat) (v : Value) (l : List Int) (w : World) (hn : n ≤ 64) (hl : l.length = n) (hb : ∀ b ∈ l, IsBit b)
    (hown : w.ownsRow B 3 1 v n (l.map (Value.int .i64))) :
    Calls Try.prog 55 #[v] w fun e w' => e = .returned (.int .u64 (val l)) ∧ w' = w := by
  rcases hown.2 with ⟨rfl, rfl⟩ | ⟨g, cap, cur, rfl, hg1, hg2, hg3, hg4, hg5, hg6⟩
  · have e : l = [] := List.eq_nil_of_length_eq_zero hl
    subst e
    clear hown hb
    go_enter Try.func55, Try.ntmps55
    go_wp2
    refine wp_loop_rounds 1 ?_
    rw [rounds_succ]
    go_wp2
    go_ret
    exact ⟨rfl, rfl⟩
  · refine word_any g cap n l w hl hn hg4 hb ?_
    intro j hj
    have := hown.cells (g := g) rfl j (.int .i64 l[j]) (by simp [hj])
    rw [← this]
    congr 1
    unfold Addr.add
    split
    · rename_i h; subst h; rfl
    · simp

def getLen (a : Nat) (n : Int) : Nat := min (min n 64).toNat (64 - a)

theorem get_val (x : Int) (a : Nat) (n : Int) (h0 : 0 ≤ x) (h1 : x < 18446744073709551616) (ha : a ≤ 63) : val (bitsFrom x a (getLen a n)) = get x a n := by
  rw [val_bitsFrom]
  unfold get
  rw [if_neg (by omega), if_neg (by omega), Int.toNat_natCast]
  have hd := div_pow_lt x a h0 h1
  rw [Int.toNat_natCast] at hd
  have hd2 : x / 2 ^ a < 2 ^ (64 - a) := by
    apply Int.ediv_lt_of_lt_mul (Int.pow_pos (by decide))
    rw [← Int.pow_add, show 64 - a + a = 64 by omega]
    omega
  by_cases h : n.toNat ≤ 64 - a
  · rw [show getLen a n = n.toNat by unfold getLen; omega]
  · rw [show getLen a n = 64 - a by unfold getLen; omega, Int.emod_eq_of_lt hd.1 hd2, Int.emod_eq_of_lt hd.1]
    have h2 : 2 ^ (64 - a) ≤ 2 ^ n.toNat := Nat.pow_le_pow_right (by omega) (by omega)
    have h3 : ((2 : Int) ^ (64 - a)) ≤ 2 ^ n.toNat := by rw [pow_toNat, pow_toNat]; exact Int.ofNat_le.2 h2
    exact Int.lt_of_lt_of_le hd2 h3

set_option maxHeartbeats 1600000 in
set_option maxRecDepth 100000 in
theorem rget_any (x a n : Int) (w : World) (h0 : 0 ≤ x) (h1 : x < 18446744073709551616) :
    Calls Try.prog 50 #[.int .u64 x, .int .i64 a, .int .i64 n] w fun e w' => e = .returned (.int .u64 (get x a n)) ∧ Below w.heap.size w w' := by
  obtain ⟨i0, hi, hz0, hz1, hz2⟩ := info_parts int_info
  have H1 := hid h1; clear h1
  by_cases ca : a < 0
  · go_enter Try.func50, Try.ntmps50
    go_wp2
    go_ret
    exact ⟨ret_int (by unfold get; rw [if_pos (by omega)]), Below.refl _ _⟩
  · by_cases cb : 63 < a
    · go_enter Try.func50, Try.ntmps50
      go_wp2
      go_ret
      exact ⟨ret_int (by unfold get; rw [if_neg (by omega), if_pos (by omega)]), Below.refl _ _⟩
    · obtain ⟨a, rfl⟩ := Int.eq_ofNat_of_zero_le (show 0 ≤ a by omega)
      go_enter Try.func50, Try.ntmps50
      go_wp2_with fail
      refine (bits_any x _ h0 H1.out).mono ?_
      rintro e w1 ⟨v, rfl, hown1, hb1⟩
      obtain ⟨g, cap, cur, rfl, hg1, hg2, hg3, hg4, hg5, hg6⟩ : ∃ g cap cur, v = .slice (some ⟨g, 0, none⟩) 64 cap ∧ w.heap.size ≤ g ∧ w1.heap[g]? = some (.cells cur 3 (0, 0)) ∧ 64 ≤ cap ∧ cap ≤ maxLen ∧ cur.size = cap * 1 ∧ cur.toList.take (64 * 1) = (bitsOf x 64).map (Value.int .i64) := by
        rcases hown1.2 with ⟨_, h⟩ | h
        · omega
        · exact h
      have hgs : g < w1.heap.size := by
        rcases Nat.lt_or_ge g w1.heap.size with h | h
        · exact h
        · rw [Array.getElem?_eq_none h] at hg2; cases hg2
      have hcell : ∀ j, j < 64 → w1.cell? ⟨g, j, none⟩ = some (.int .i64 (bitAt x j)) := by
        intro j hj
        have := hown1.cells (g := g) rfl j (.int .i64 (bitAt x j)) (by simp [bitsOf, hj])
        rw [← this]
        congr 1
        unfold Addr.add
        split
        · rename_i h; subst h; rfl
        · simp
      have HC := hid hcell; clear hcell
      have HB1 := hid hb1; clear hb1
      clear hown1 hg2 hg5 hg6
      have H4 := hid hg4; clear hg4
      go_wp2_with fail
      go_loopw [8, 9] (fun v i wr => ∃ k : Nat, k ≤ getLen a n ∧ i = .int .i64 k ∧ wr.ownsRow w1.heap.size 3 1 v k ((bitsFrom x a k).map (Value.int .i64)) ∧ Below w1.heap.size w1 wr)
        (fun _ i _ => getLen a n - (intOf i).toNat)
      case atStart => exact ⟨0, by omega, rfl, World.ownsRow_nil _ _ _ _, Below.refl _ _⟩
      case round =>
        obtain ⟨k, hk, rfl, hown, hnx⟩ := hrel
        have hgl : getLen a n ≤ 64 := by unfold getLen; omega
        rcases (show n ≤ 64 ∨ 64 < n by omega) with hn64 | hn64
        all_goals
          by_cases hlt : k < getLen a n
          · have hk1 : (k : Int) < n := by unfold getLen at hlt; omega
            have hk3 : (k : Int) < 64 := by omega
            have hk2 : ((a : Int) + k) < 64 := by unfold getLen at hlt; omega
            have hcell : wr.cell? ⟨g, a + k, none⟩ = some (.int .i64 (bitAt x (a + k))) := (hnx.cell hgs).trans (HC.out (a + k) (by omega))
            have HS := hid (bitsFrom_snoc x a k)
            have HK := hid hlt
            clear hlt hk
            go_wp2_with (at_builtin; refine wpList_append_own _ rfl _ _ 68 rfl w1.heap.size 3 i0 (.int .i64 0) 1 8 Try.underlying68 hi hz0 hz1 hz2 rfl (by decide) _ _ _ rfl (hown.alloc _) ⟨wr.heap.size, 0, none⟩ 1 1 [.int .i64 (bitAt x (a + k))] rfl rfl ?c1 ?c2 ?c3 ?c4 ?c5 ?_)
            case c1 => exact cell_one_new _ _ _
            case c2 => intro u hu; simp at hu; subst hu; rfl
            case c3 => unfold maxLen; omega
            case c4 => omega
            case c5 => have := hnx.size; simp; omega
            intro v' w2 hown' hgrow _
            have hb2 : Below w1.heap.size w1 w2 := below_append hnx hown (by have := hnx.size; omega) hgrow
            have hown2 : w2.ownsRow w1.heap.size 3 1 v' (k + 1) ((bitsFrom x a (k + 1)).map (Value.int .i64)) := by
              rw [HS.out, List.map_append]; exact hown'
            have HK' := HK.out
            clear hown' hgrow hown hcell
            go_wp2
            go_roundw
            case rel => exact ⟨k + 1, by omega, by go_num, hown2, hb2⟩
            case measure => simp [intOf]; omega
          · have hk1 : getLen a n = k := by omega
            have hd : (min n 64 ≤ (k : Int) ∨ ((k : Int) < n ∧ (k : Int) < 64 ∧ 64 ≤ (a : Int) + k)) := by unfold getLen at hlt; omega
            have hgv := get_val x a n h0 H1.out (by omega)
            have HK := hid hk1; clear hk1 hlt hk
            have HG := hid hgv; clear hgv
            rcases hd with hd1 | ⟨hd1, hd2, hd3⟩
            · have hd4 : (if 64 < n then (64 : Int) else n) ≤ k := by split <;> omega
              first | rw [if_neg (by omega)] at hd4 | rw [if_pos hn64] at hd4
              clear hd1
              go_wp2_with fail
              refine (word_own w1.heap.size k u8 (bitsFrom x a k) wr (by have := HK.out; omega) (bitsFrom_len _ _ _) (bitsFrom_bit _ _ _) hown).mono ?_
              rintro e w' ⟨rfl, rfl⟩
              go_wp2_with fail
              go_ret
              exact ⟨ret_int (by rw [← HG.out, HK.out]), HB1.out.trans (hnx.mono HB1.out.size)⟩
            · go_wp2_with fail
              refine (word_own w1.heap.size k u8 (bitsFrom x a k) wr (by have := HK.out; omega) (bitsFrom_len _ _ _) (bitsFrom_bit _ _ _) hown).mono ?_
              rintro e w' ⟨rfl, rfl⟩
              go_wp2_with fail
              go_ret
              exact ⟨ret_int (by rw [← HG.out, HK.out]), HB1.out.trans (hnx.mono HB1.out.size)⟩

/-- The bits of a word with the sign above, as far as they are laid. -/
def sx (x : Int) (n k j : Nat) : Int := if j < n then bitAt x j else if j < k then bitAt x (n - 1) else bitAt x j
def sxList (x : Int) (n : Nat) : List Int := (List.range 64).map (sx x n 64)
def rsext (x n : Int) : Int := val (sxList x n.toNat)

theorem sxList_bit (x : Int) (n : Nat) : ∀ b ∈ sxList x n, IsBit b := by
  intro b hb
  obtain ⟨i, _, rfl⟩ := List.mem_map.1 hb
  unfold sx
  split
  · exact bitAt_bit _ _
  · split <;> exact bitAt_bit _ _

set_option maxHeartbeats 1600000 in
set_option maxRecDepth 100000 in
theorem rsext_any (x n : Int) (w : World) (h0 : 0 ≤ x) (h1 : x < 18446744073709551616) (hn0 : 1 ≤ n) (hn1 : n ≤ 63) :
    Calls Try.prog 53 #[.int .u64 x, .int .i64 n] w fun e w' => e = .returned (.int .u64 (rsext x n)) ∧ Below w.heap.size w w' := by
  have H1 := hid h1; clear h1
  obtain ⟨n, rfl⟩ := Int.eq_ofNat_of_zero_le (show 0 ≤ n by omega)
  go_enter Try.func53, Try.ntmps53
  go_wp2_with fail
  refine (bits_any x _ h0 H1.out).mono ?_
  rintro e w1 ⟨v, rfl, hown1, hb1⟩
  obtain ⟨g, cap, cur, rfl, hg1, hg2, hg3, hg4, hg5, hg6⟩ : ∃ g cap cur, v = .slice (some ⟨g, 0, none⟩) 64 cap ∧ w.heap.size ≤ g ∧ w1.heap[g]? = some (.cells cur 3 (0, 0)) ∧ 64 ≤ cap ∧ cap ≤ maxLen ∧ cur.size = cap * 1 ∧ cur.toList.take (64 * 1) = (bitsOf x 64).map (Value.int .i64) := by
    rcases hown1.2 with ⟨_, h⟩ | h
    · omega
    · exact h
  have hcell : ∀ j, j < 64 → w1.cell? ⟨g, j, none⟩ = some (.int .i64 (bitAt x j)) := by
    intro j hj
    have := hown1.cells (g := g) rfl j (.int .i64 (bitAt x j)) (by simp [bitsOf, hj])
    rw [← this]
    congr 1
    unfold Addr.add
    split
    · rename_i h; subst h; rfl
    · simp
  have hfr : ∀ j, w1.frozen? ⟨g, j, none⟩ = false := fun j => frozen_of_row _ _ _ _ _ hg2
  have HC := hid hcell; clear hcell
  have HF := hid hfr; clear hfr
  have HB1 := hid hb1; clear hb1
  clear hown1 hg2 hg5 hg6
  have H4 := hid hg4; clear hg4
  go_wp2_with fail
  go_loopw [6] (fun i wr => ∃ k : Nat, n ≤ k ∧ k ≤ 64 ∧ i = .int .i64 k ∧ (∀ j, j < 64 → wr.cell? ⟨g, j, none⟩ = some (.int .i64 (sx x n k j))) ∧ (∀ j, wr.frozen? ⟨g, j, none⟩ = false) ∧ Below w.heap.size w wr)
    (fun i _ => 64 - (intOf i).toNat)
  case atStart => exact ⟨n, by omega, by omega, rfl, fun j hj => by rw [HC.out j hj]; unfold sx; split <;> rfl, HF.out, HB1.out⟩
  case round =>
    obtain ⟨k, hk0, hk, rfl, hc, hf, hnx⟩ := hrel
    by_cases hlt : k < 64
    · have c1 := hc k hlt
      have c2 := hc (n - 1) (by omega)
      have f1 := hf k
      have HCC := hid hc; clear hc
      have HFF := hid hf; clear hf
      have HNX := hid hnx; clear hnx
      have hn3 : ((n : Int) - 1).toNat = n - 1 := by omega
      go_wp2_with fail
      refine ⟨⟨k + 1, by omega, by omega, by go_num, ?_, ?_, HNX.out.setCell hg1 _⟩, by simp [intOf] <;> omega⟩
      · intro j hj
        by_cases e : j = k
        · subst e
          rw [World.cell?_setCell_same _ _ _ c1]
          unfold sx
          rw [if_pos (show n - 1 < n by omega), if_neg (show ¬ j < n by omega), if_pos (show j < j + 1 by omega)]
        · rw [World.cell?_setCell_other _ _ _ _ (by simp <;> omega), HCC.out j hj]
          unfold sx
          by_cases h1 : j < n
          · rw [if_pos h1, if_pos h1]
          · rw [if_neg h1, if_neg h1]
            by_cases h2 : j < k
            · rw [if_pos h2, if_pos (by omega)]
            · rw [if_neg h2, if_neg (by omega)]
      · intro j
        rw [World.frozen?_setCell]
        exact HFF.out j
    · have e : k = 64 := by omega
      subst e
      have HCC := hid hc; clear hc
      have HFF := hid hf; clear hf
      have HNX := hid hnx; clear hnx
      go_wp2_with fail
      refine (word_any g cap 64 (sxList x n) wr (by simp [sxList]) (by omega) H4.out (sxList_bit _ _) ?_).mono ?_
      · intro j hj
        rw [HCC.out j (by simpa [sxList] using hj)]
        simp [sxList]
      rintro e w' ⟨rfl, rfl⟩
      go_wp2_with fail
      go_ret
      exact ⟨ret_int (by unfold rsext; rw [Int.toNat_natCast]), HNX.out⟩

end Go.Proofs.Ythifnlhbioaihaa
