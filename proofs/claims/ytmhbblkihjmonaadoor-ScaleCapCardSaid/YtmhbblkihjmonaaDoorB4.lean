/- The walks of the sets' functions: turned, up, Move. -/
import Derived.Test.YtmhbblkihjmonaaDoorB3
set_option linter.unusedVariables false
namespace Go.Proofs.YtmhbblkihjmonaaDoor
open Go.RowKit

theorem ns_index (s : NS) (k : Nat) (hk : k < 4) (w : World) : (Instr.index 24 (nsV s) (.int .i64 (k : Int))).run Tryd.prog w = .ok (.int .u64 (wn s k : Nat)) w := by
  rcases (show k = 0 ∨ k = 1 ∨ k = 2 ∨ k = 3 by omega) with rfl | rfl | rfl | rfl <;> kernel_rfl

/-! ### an array that is filled from its end -/
def fillR (f : Nat → Nat) (k : Nat) : Array Value :=
  #[.int .u64 ((if 3 < k then f 0 else 0 : Nat) : Int), .int .u64 ((if 2 < k then f 1 else 0 : Nat) : Int), .int .u64 ((if 1 < k then f 2 else 0 : Nat) : Int), .int .u64 ((if 0 < k then f 3 else 0 : Nat) : Int)]
theorem fillR_get (f : Nat → Nat) (k : Nat) (h : k < 4) : (fillR f k)[3 - k]? = some (.int .u64 0) := by
  rcases (show k = 0 ∨ k = 1 ∨ k = 2 ∨ k = 3 by omega) with rfl | rfl | rfl | rfl <;> rfl
theorem fillR_set (f : Nat → Nat) (k : Nat) (h : k < 4) : (fillR f k).setIfInBounds (3 - k) (.int .u64 (f (3 - k) : Nat)) = fillR f (k + 1) := by
  rcases (show k = 0 ∨ k = 1 ∨ k = 2 ∨ k = 3 by omega) with rfl | rfl | rfl | rfl <;> rfl
theorem fillR_step {w : World} {g t k j : Nat} {f : Nat → Nat} {X : Int} (h : Blk w g t (fillR f k)) (hk : k < 4) (hj : j = 3 - k) (hX : X = (f (3 - k) : Nat)) : Blk (w.setCell ⟨g, j, none⟩ (.int .u64 X)) g t (fillR f (k + 1)) := by
  rw [hX, hj, ← fillR_set f k hk]; exact h.set_ _ _
theorem fillR_four (s : NS) : fillR (wn s) 4 = #[.int .u64 (wn s 0 : Nat), .int .u64 (wn s 1 : Nat), .int .u64 (wn s 2 : Nat), .int .u64 (wn s 3 : Nat)] := rfl
def turnS (s : NS) : NS := setOf fun i => s.getLsbD (255 - i)
theorem turn_word (s : NS) (k : Nat) (hk : k < 4) : revAll (wn s k) = wn (turnS s) (3 - k) := by
  have hlt : revAll (wn s k) < 2 ^ 64 := by
    have hy : revB (rev3 (wn s k)) < 2 ^ 64 := revStep_lt _ _ _ (by decide) (by decide)
    unfold revAll
    exact Nat.or_lt_two_pow (by omega) (Nat.mod_lt _ (by decide))
  refine wn_eq hlt fun j hj => ?_
  rw [revAll_bit _ _ hj, wn_bit]
  unfold turnS
  rw [setOf_bit]
  have h2 : 64 * (3 - k) + j < 256 := by omega
  have h3 : 63 - j < 64 := by omega
  rw [decide_eq_true h2, decide_eq_true h3, Bool.true_and, Bool.true_and]
  congr 1
  omega

set_option maxHeartbeats 1000000 in
theorem turned_c (s : NS) (w : World) :
    Calls Tryd.prog 59 #[nsV s] w fun e w' => e = .returned (nsV (turnS s)) ∧ Below w.heap.size w w' := by
  go_enter Tryd.func59, Tryd.ntmps59
  go_wp2_with fail
  go_loopw [7] (fun i wr => ∃ k : Nat, k ≤ 4 ∧ i = .int .i64 k ∧ Blk wr (w.heap.size + 1) 24 #[.int .u64 0, .int .u64 0, .int .u64 0, .int .u64 0] ∧ Blk wr (w.heap.size + 2) 24 (fillR (wn (turnS s)) k) ∧ Below w.heap.size w wr) (fun i _ => 4 - (intOf i).toNat)
  case atStart =>
    exact ⟨0, by omega, rfl, (Blk.new' (by simp)).alloc _, Blk.new' (by simp), (((Below.refl _ _).alloc (by simp) _).alloc (by simp) _).alloc (by simp; omega) _⟩
  case round =>
    obtain ⟨k, hk, rfl, hB0, hB1, hbl⟩ := hrel
    have H0 := Lib.hid hB0; have H1 := Lib.hid hB1; have HL := Lib.hid hbl
    obtain ⟨r1, r2, r3⟩ := hB0.rules
    obtain ⟨q1, q2, q3⟩ := hB1.rules
    clear hB0 hB1 hbl
    by_cases hlt : k < 4
    · have c1 := fillR_get (wn (turnS s)) k hlt
      have ix := ns_index s k hlt
      have e3 : ((3 : Int) - (k : Int)).toNat = 3 - k := by omega
      have l1 : (3 : Int) - k ≤ 3 := by omega
      have l2 : 0 ≤ (3 : Int) - k := by omega
      clear r1 r2 r3
      go_wp2_with (refine (rev_c (wn s k) (wn_le s k) _).mono ?_; rintro e w' ⟨rfl, rfl⟩)
      go_roundw
      case rel => exact ⟨k + 1, by omega, by go_num, H0.out.far (by simp) _, fillR_step H1.out hlt (by omega) (by rw [turn_word s k hlt]), HL.out.setCell (by dsimp only; omega) _⟩
      case measure => simp [intOf]; omega
    · obtain rfl : k = 4 := by omega
      have e4 := fillR_four (turnS s)
      go_wp2
      exact post_cell rfl rfl (H0.out.four _ _ _ _) Tryd.underlying24 rfl (by kernel_rfl) rfl ⟨rfl, below_four HL.out (by omega) _ _ _ _⟩

/-! ### up -/
def upW (s : NS) (q r i : Nat) : Nat := if q < i then (wn s (i - q) * 2 ^ r % 18446744073709551616) ||| (wn s (i - q - 1) / 2 ^ (64 - r)) else if q = i then wn s 0 * 2 ^ r % 18446744073709551616 else 0
theorem upW_le (s : NS) (q r i : Nat) : upW s q r i < 2 ^ 64 := by
  unfold upW
  split
  · refine Nat.or_lt_two_pow (Nat.mod_lt _ (by decide)) (Nat.lt_of_le_of_lt (Nat.div_le_self _ _) (wn_lt s _))
  · split
    · exact Nat.mod_lt _ (by decide)
    · decide
theorem up_word (s : NS) (b : Nat) (hb : b ≤ 255) (i : Nat) (hi : i < 4) : upW s (b / 64) (b % 64) i = wn (moveS s b) i := by
  refine wn_eq (upW_le s _ _ i) fun j hj => ?_
  have hlt : 64 * i + j < 256 := by omega
  have hr : b % 64 < 64 := Nat.mod_lt _ (by decide)
  have hq := Nat.div_add_mod b 64
  rw [moveS_bit, decide_eq_true hlt, Bool.true_and]
  have hpow : ∀ x, (x * 2 ^ (b % 64) % 18446744073709551616).testBit j = (decide (b % 64 ≤ j) && x.testBit (j - b % 64)) := fun x => by
    rw [show (18446744073709551616 : Nat) = 2 ^ 64 from rfl, Nat.testBit_mod_two_pow, Nat.testBit_mul_two_pow]
    simp [hj]
  by_cases h1 : b ≤ 64 * i + j
  · have e : ((64 * i + j : Nat) : Int) - (b : Int) = ((64 * i + j - b : Nat) : Int) := by omega
    rw [e, hasS_nat]
    unfold upW
    by_cases h2 : b / 64 < i
    · rw [if_pos h2, Nat.testBit_or, hpow, wn_bit, Nat.testBit_div_two_pow, wn_bit]
      by_cases h3 : b % 64 ≤ j
      · have h4 : ¬ (j + (64 - b % 64) < 64) := by omega
        have h5 : j - b % 64 < 64 := by omega
        rw [decide_eq_true h3, decide_eq_true h5, decide_eq_false h4]
        simp only [Bool.true_and, Bool.false_and, Bool.or_false]
        congr 1; omega
      · have h4 : j + (64 - b % 64) < 64 := by omega
        rw [decide_eq_false h3, decide_eq_true h4]
        simp only [Bool.true_and, Bool.false_and, Bool.false_or]
        congr 1; omega
    · have h3 : b / 64 = i := by omega
      have h4 : b % 64 ≤ j := by omega
      have h5 : j - b % 64 < 64 := by omega
      rw [if_neg h2, if_pos h3, hpow, wn_bit, decide_eq_true h4, decide_eq_true h5]
      simp only [Bool.true_and]
      congr 1; omega
  · rw [hasS_neg _ (by omega)]
    unfold upW
    by_cases h2 : b / 64 < i
    · omega
    · rw [if_neg h2]
      split
      · rw [hpow]
        have : ¬ b % 64 ≤ j := by omega
        simp [this]
      · simp

theorem fill_step2 {w : World} {g t k : Nat} {f : Nat → Nat} {v : Value} {X : Int} (h : Blk w g t (fillA f k)) (hk : k < 4) (hX : X = (f k : Nat)) :
    Blk ((w.setCell ⟨g, k, none⟩ v).setCell ⟨g, k, none⟩ (.int .u64 X)).drew g t (fillA f (k + 1)) := by
  rw [hX, ← fillA_set f k hk]
  have h2 := ((h.set_ k v).set_ k (.int .u64 (f k : Nat))).drew
  rwa [Array.setIfInBounds_setIfInBounds] at h2
theorem up_or (s : NS) (q r k j : Nat) (hj : q + (j + 1) = k) (hr : r ≤ 63) :
    bits .or .u64 (IntKind.u64.wrap ((wn s (j + 1) : Int) * 2 ^ r)) ((wn s j : Int) / 2 ^ (64 - r)) = ((upW s q r k : Nat) : Int) := by
  have e1 : (wn s (j + 1) : Int) * 2 ^ r = ((wn s (j + 1) * 2 ^ r : Nat) : Int) := by simp
  have e2 : IntKind.u64.wrap (((wn s (j + 1) * 2 ^ r : Nat)) : Int) = ((wn s (j + 1) * 2 ^ r % 18446744073709551616 : Nat) : Int) := by rw [IntKind.wrap_u64]; omega
  have l1 : wn s j / 2 ^ (64 - r) ≤ wn s j := Nat.div_le_self _ _
  have l2 := wn_le s j
  rw [e1, e2, pow_cast, or_u64 _ _ (by omega) (by omega)]
  unfold upW
  rw [if_pos (by omega), show k - q = j + 1 by omega, show j + 1 - 1 = j by omega]
set_option maxHeartbeats 2000000 in
theorem up_core (s : NS) (f : Nat → Nat) (b : Int) (q r : Nat) (b0 : 0 ≤ b) (b1 : b ≤ 255) (hq : b / 64 = (q : Int)) (h63 : bits .and .i64 b 63 = (r : Int)) (hq3 : q ≤ 3) (hr : r ≤ 63) (hf : ∀ i, i < 4 → f i = upW s q r i) (w : World) :
    Calls Tryd.prog 60 #[nsV s, .int .i64 b] w fun e w' => e = .returned (.agg (fillA f 4)) ∧ Below w.heap.size w w' := by
  have HF := Lib.hid hf
  clear hf
  go_enter Tryd.func60, Tryd.ntmps60
  go_wp2_with fail
  go_loopw [8] (fun i wr => ∃ k : Nat, k ≤ 4 ∧ i = .int .i64 k ∧ Blk wr w.heap.size 24 #[.int .u64 (wn s 0 : Nat), .int .u64 (wn s 1 : Nat), .int .u64 (wn s 2 : Nat), .int .u64 (wn s 3 : Nat)] ∧ Blk wr (w.heap.size + 1) 24 #[.int .u64 0, .int .u64 0, .int .u64 0, .int .u64 0] ∧ Blk wr (w.heap.size + 2) 24 (fillA f k) ∧ Below w.heap.size w wr) (fun i _ => 4 - (intOf i).toNat)
  case atStart =>
    exact ⟨0, by omega, rfl, ((Blk.new' (by simp)).alloc _).alloc _, (Blk.new' (by simp)).alloc _, Blk.new' (by simp), (((Below.refl _ _).alloc (by simp) _).alloc (by simp) _).alloc (by simp; omega) _⟩
  case round =>
    obtain ⟨k, hk, rfl, hB0, hB1, hB2, hbl⟩ := hrel
    have H0 := Lib.hid hB0; have H1 := Lib.hid hB1; have H2 := Lib.hid hB2; have HL := Lib.hid hbl
    obtain ⟨r1, r2, r3⟩ := hB0.rules
    obtain ⟨q1, q2, q3⟩ := hB1.rules
    obtain ⟨z1, z2, z3⟩ := hB2.rules
    clear hB0 hB1 hB2 hbl
    by_cases hlt : k < 4
    · have c1 := fillA_get f k hlt
      have hw := HF.out k hlt
      have HW := Lib.hid hw
      clear hw q1 q2
      by_cases h1 : k < q
      · go_wp2_with fail
        go_roundw
        case rel =>
          refine ⟨k + 1, by omega, by go_num, H0.out, H1.out, ?_, HL.out⟩
          have h0 : f k = 0 := by rw [HW.out]; unfold upW; rw [if_neg (by omega), if_neg (by omega)]
          have hs := fillA_set f k hlt
          rw [h0] at hs
          rw [← hs]
          have hg : (fillA f k).setIfInBounds k (.int .u64 ((0 : Nat) : Int)) = fillA f k := by
            rcases (show k = 0 ∨ k = 1 ∨ k = 2 ∨ k = 3 by omega) with rfl | rfl | rfl | rfl <;> rfl
          rw [hg]
          exact H2.out
        case measure => simp [intOf]; omega
      · by_cases h2 : k = q
        · subst h2
          go_wp2_with fail
          go_roundw
          case rel =>
            refine ⟨k + 1, by omega, by go_num, H0.out.far (by dsimp only; omega) _, H1.out.far (by dsimp only; omega) _, fill_step H2.out hlt ?_, HL.out.setCell (by dsimp only; omega) _⟩
            rw [HW.out]; unfold upW
            rw [if_neg (by omega), if_pos rfl, IntKind.wrap_u64]
            simp
          case measure => simp [intOf]; omega
        · obtain ⟨j, hj⟩ : ∃ j, q + (j + 1) = k := ⟨k - q - 1, by omega⟩
          have HJ := Lib.hid hj
          have e1 : ((k : Int) - (q : Int)) = ((j + 1 : Nat) : Int) := by omega
          have l1 : (j : Int) + 1 < 4 := by omega
          clear hj
          have g1 := ns_get s (j + 1) (by omega)
          have g2 := ns_get s j (by omega)
          go_wp2_with fail
          refine region_tail 13 (by kernel_rfl) (by kernel_rfl) ?_
          simp only [List.take_succ_cons, List.take_zero, List.drop_succ_cons, List.drop_zero]
          have w1 : IntKind.i64.wrap (j : Int) = (j : Int) := by rw [IntKind.wrap_i64]; omega
          have w2 : IntKind.i64.wrap ((64 : Int) - (r : Int)) = ((64 - r : Nat) : Int) := by rw [IntKind.wrap_i64]; omega
          have l2 : (j : Int) < 4 := by omega
          have l3 : 0 ≤ (j : Int) := by omega
          repeat still_step
          refine wpStill_nil ?_
          go_wp2
          go_roundw
          case rel =>
            refine ⟨k + 1, by omega, by go_num, (H0.out.far (by dsimp only; omega) _).drew.far (by dsimp only; omega) _, (H1.out.far (by dsimp only; omega) _).drew.far (by dsimp only; omega) _, ?_, (HL.out.setCell (by dsimp only; omega) _).drew.setCell (by dsimp only; omega) _⟩
            refine fill_step2 H2.out hlt ?_
            rw [HW.out, up_or s q r k j HJ.out hr]
          case measure => simp [intOf]; omega
    · obtain rfl : k = 4 := by omega
      have e4 : fillA f 4 = #[.int .u64 (f 0 : Nat), .int .u64 (f 1 : Nat), .int .u64 (f 2 : Nat), .int .u64 (f 3 : Nat)] := rfl
      go_wp2
      exact post_cell rfl rfl (H1.out.four _ _ _ _) Tryd.underlying24 rfl (by kernel_rfl) rfl ⟨rfl, below_four HL.out (by omega) _ _ _ _⟩
theorem up_c (s : NS) (b : Int) (h0 : 0 ≤ b) (h1 : b ≤ 255) (w : World) :
    Calls Tryd.prog 60 #[nsV s, .int .i64 b] w fun e w' => e = .returned (nsV (moveS s b)) ∧ Below w.heap.size w w' := by
  obtain ⟨n, rfl⟩ := Int.eq_ofNat_of_zero_le h0
  exact up_core s (wn (moveS s n)) n (n / 64) (n % 64) h0 h1 (by omega) (by rw [and63 _ h0 (by omega)]; omega) (by omega) (by omega) (fun i hi => (up_word s n (by omega) i hi).symm) w

theorem turn_move (s : NS) (b : Int) (h0 : b < 0) : turnS (moveS (turnS s) (-b)) = moveS s b := ns_ext fun i hi => by
  unfold turnS
  rw [setOf_bit, moveS_bit, moveS_bit, decide_eq_true hi, decide_eq_true (show 255 - i < 256 by omega), Bool.true_and, Bool.true_and, Bool.true_and]
  by_cases h2 : (255 : Int) < (i : Int) - b
  · rw [hasS_neg _ (by omega), hasS_big _ h2]
  · obtain ⟨n, hn⟩ := Int.eq_ofNat_of_zero_le (show 0 ≤ (i : Int) - b by omega)
    have e : ((255 - i : Nat) : Int) - -b = ((255 - n : Nat) : Int) := by omega
    rw [hn, e]
    show hasS _ _ = hasS s (n : Nat)
    rw [hasS_nat, hasS_nat, setOf_bit, decide_eq_true (show 255 - n < 256 by omega), Bool.true_and]
    congr 1
    omega
theorem move_far (s : NS) (b : Int) (h : b < -255 ∨ 255 < b) : moveS s b = emptyS := ns_ext fun i hi => by
  rw [moveS_bit, empty_bit, decide_eq_true hi, Bool.true_and]
  rcases h with h | h
  · exact hasS_big _ (by omega)
  · exact hasS_neg _ (by omega)

theorem move_no (s : NS) (b : Int) (h : b < -255 ∨ 255 < b) (w : World) :
    Calls Tryd.prog 31 #[nsV s, .int .i64 b] w fun e w' => e = .returned (.agg #[.int .u64 0, .int .u64 0, .int .u64 0, .int .u64 0]) ∧ Below w.heap.size w w' := by
  rcases h with h | h
  · go_enter Tryd.func31, Tryd.ntmps31
    go_wp2_with fail
    exact post_cell rfl rfl (Blk.new' (by simp)) Tryd.underlying24 rfl (by kernel_rfl) rfl ⟨rfl, ((Below.refl _ _).alloc (by simp) _).alloc (by simp) _⟩
  · go_enter Tryd.func31, Tryd.ntmps31
    go_wp2_with fail
    exact post_cell rfl rfl (Blk.new' (by simp)) Tryd.underlying24 rfl (by kernel_rfl) rfl ⟨rfl, ((Below.refl _ _).alloc (by simp) _).alloc (by simp) _⟩
theorem move_up (s : NS) (b : Int) (h0 : 0 ≤ b) (h1 : b ≤ 255) (w : World) :
    Calls Tryd.prog 31 #[nsV s, .int .i64 b] w fun e w' => e = .returned (nsV (moveS s b)) ∧ Below w.heap.size w w' := by
  go_enter Tryd.func31, Tryd.ntmps31
  go_wp2_with fail
  refine (up_c s b h0 h1 _).mono ?_
  rintro e w1 ⟨rfl, hb1⟩
  have h3 : Blk w1 (w.heap.size + 1) 24 #[.int .u64 0, .int .u64 0, .int .u64 0, .int .u64 0] := Blk.after (Blk.new' (by simp)) hb1
  have HL1 := Lib.hid (below_then (((Below.refl w.heap.size w).alloc (by simp) _).alloc (by simp) _) (by simp; omega) hb1)
  obtain ⟨r1, r2, r3⟩ := h3.rules
  have H3 := Lib.hid h3
  clear h3 hb1
  go_wp2
  exact post_cell rfl rfl (H3.out.four _ _ _ _) Tryd.underlying24 rfl (by kernel_rfl) rfl ⟨rfl, below_four HL1.out (by omega) _ _ _ _⟩
theorem move_down (s : NS) (b : Int) (h0 : b < 0) (h1 : -255 ≤ b) (w : World) :
    Calls Tryd.prog 31 #[nsV s, .int .i64 b] w fun e w' => e = .returned (nsV (moveS s b)) ∧ Below w.heap.size w w' := by
  have hn := turn_move s b h0
  have HN := Lib.hid hn
  clear hn
  go_enter Tryd.func31, Tryd.ntmps31
  go_wp2_with fail
  refine (turned_c s _).mono ?_
  rintro e w1 ⟨rfl, hb1⟩
  have h3 : Blk w1 (w.heap.size + 1) 24 #[.int .u64 0, .int .u64 0, .int .u64 0, .int .u64 0] := Blk.after (Blk.new' (by simp)) hb1
  have HL1 := Lib.hid (below_then (((Below.refl w.heap.size w).alloc (by simp) _).alloc (by simp) _) (by simp; omega) hb1)
  clear hb1
  go_wp2_with fail
  refine (up_c (turnS s) (-b) (by omega) (by omega) _).mono ?_
  rintro e w2 ⟨rfl, hb2⟩
  have h4 := h3.after hb2
  have HL2 := Lib.hid (below_then HL1.out HL1.out.size hb2)
  clear h3 hb2 HL1
  go_wp2_with fail
  refine (turned_c _ _).mono ?_
  rintro e w3 ⟨rfl, hb3⟩
  have h5 := h4.after hb3
  have HL3 := Lib.hid (below_then HL2.out HL2.out.size hb3)
  clear h4 hb3 HL2
  obtain ⟨r1, r2, r3⟩ := h5.rules
  have H5 := Lib.hid h5
  clear h5
  rw [HN.out]
  go_wp2
  exact post_cell rfl rfl (H5.out.four _ _ _ _) Tryd.underlying24 rfl (by kernel_rfl) rfl ⟨rfl, below_four HL3.out (by omega) _ _ _ _⟩
theorem move_c (s : NS) (b : Int) (w : World) :
    Calls Tryd.prog 31 #[nsV s, .int .i64 b] w fun e w' => e = .returned (nsV (moveS s b)) ∧ Below w.heap.size w w' := by
  by_cases h : b < -255 ∨ 255 < b
  · rw [move_far s b h, empty_val]
    exact move_no s b h w
  · by_cases h2 : b < 0
    · exact move_down s b h2 (by omega) w
    · exact move_up s b (by omega) (by omega) w
end Go.Proofs.YtmhbblkihjmonaaDoor
