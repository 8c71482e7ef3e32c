/- The walks of the sets' functions: Has, below, Span, Count. -/
import Derived.Test.YtmhbblkihjmonaaDoorB2
set_option linter.unusedVariables false
namespace Go.Proofs.YtmhbblkihjmonaaDoor
open Go.RowKit

theorem and63 (i : Int) (h0 : 0 ≤ i) (h1 : i ≤ 9223372036854775807) : bits .and .i64 i 63 = i % 64 := by
  obtain ⟨n, rfl⟩ := Int.eq_ofNat_of_zero_le h0
  show IntKind.i64.wrap ((BitVec.ofInt 64 (n : Int) &&& BitVec.ofInt 64 63).toNat : Int) = _
  rw [BitVec.toNat_and, BitVec.ofInt_natCast, BitVec.toNat_ofNat, Nat.mod_eq_of_lt (show n < 2 ^ 64 by omega), show (BitVec.ofInt 64 63).toNat = 63 from rfl, nat_mask6, IntKind.wrap_i64]
  omega
theorem pow_cast (x m : Nat) : (x : Int) / 2 ^ m = ((x / 2 ^ m : Nat) : Int) := by simp
theorem and_one (y : Nat) (h : y ≤ 18446744073709551615) : bits .and .u64 (y : Int) 1 = ((y % 2 : Nat) : Int) := by
  rw [show (1 : Int) = ((1 : Nat) : Int) from rfl, and_u64 y 1 h (by decide), nat_mask1]
theorem has_bit (s : NS) (i : Int) (h0 : 0 ≤ i) (h1 : i ≤ 255) : (bits .and .u64 ((wn s (i / 64).toNat : Int) / 2 ^ (i % 64).toNat) 1 == 1) = hasS s i := by
  obtain ⟨n, rfl⟩ := Int.eq_ofNat_of_zero_le h0
  have e1 : ((n : Int) / 64).toNat = n / 64 := by omega
  have e2 : ((n : Int) % 64).toNat = n % 64 := by omega
  rw [e1, e2, pow_cast, and_one _ (by have := wn_le s (n / 64); have := Nat.div_le_self (wn s (n / 64)) (2 ^ (n % 64)); omega), hasS_nat, bit_wn, Nat.testBit_eq_decide_div_mod_eq]
  rw [Bool.eq_iff_iff, beq_iff_eq, decide_eq_true_eq]
  omega

theorem has_in (s : NS) (i : Int) (w : World) (h0 : 0 ≤ i) (h1 : i ≤ 255) :
    Calls Tryd.prog 29 #[nsV s, .int .i64 i] w fun e w' => e = .returned (.bool (hasS s i)) ∧ Below w.heap.size w w' := by
  have hg := ns_get s (i / 64).toNat (by omega)
  have h63 := and63 i h0 (by omega)
  go_enter Tryd.func29, Tryd.ntmps29
  go_wp2
  go_ret
  exact ⟨ret_bool (has_bit s i h0 h1), (Below.refl _ _).alloc (Nat.le_refl _) _⟩
theorem has_hi (s : NS) (i : Int) (w : World) (h0 : 255 < i) (h1 : i ≤ 9223372036854775807) :
    Calls Tryd.prog 29 #[nsV s, .int .i64 i] w fun e w' => e = .returned (.bool (hasS s i)) ∧ Below w.heap.size w w' := by
  have hd : decide (i ≤ 255) = false := decide_eq_false (by omega)
  have hr := hasS_big s h0
  have HR := Lib.hid hr
  clear hr
  go_enter Tryd.func29, Tryd.ntmps29
  go_wp2
  go_ret
  exact ⟨ret_bool HR.out.symm, (Below.refl _ _).alloc (Nat.le_refl _) _⟩
theorem has_lo (s : NS) (i : Int) (w : World) (h0 : i < 0) (h1 : -9223372036854775808 ≤ i) :
    Calls Tryd.prog 29 #[nsV s, .int .i64 i] w fun e w' => e = .returned (.bool (hasS s i)) ∧ Below w.heap.size w w' := by
  have hd : decide (IntKind.u64.wrap i ≤ 255) = false := decide_eq_false (by rw [IntKind.wrap_u64]; omega)
  have hd2 : 255 < IntKind.u64.wrap i := by rw [IntKind.wrap_u64]; omega
  have hr := hasS_neg s h0
  have HR := Lib.hid hr
  clear hr
  go_enter Tryd.func29, Tryd.ntmps29
  go_wp2
  go_ret
  exact ⟨ret_bool HR.out.symm, (Below.refl _ _).alloc (Nat.le_refl _) _⟩
/-- bits.Has at every number. -/
theorem has_c (s : NS) (i : Int) (w : World) (h0 : -9223372036854775808 ≤ i) (h1 : i ≤ 9223372036854775807) :
    Calls Tryd.prog 29 #[nsV s, .int .i64 i] w fun e w' => e = .returned (.bool (hasS s i)) ∧ Below w.heap.size w w' := by
  by_cases a : i < 0
  · exact has_lo s i w a h0
  · by_cases b : 255 < i
    · exact has_hi s i w b h1
    · exact has_in s i w (by omega) (by omega)

/-! ### an array that is filled word by word -/
def fillA (f : Nat → Nat) (k : Nat) : Array Value :=
  #[.int .u64 ((if 0 < k then f 0 else 0 : Nat) : Int), .int .u64 ((if 1 < k then f 1 else 0 : Nat) : Int), .int .u64 ((if 2 < k then f 2 else 0 : Nat) : Int), .int .u64 ((if 3 < k then f 3 else 0 : Nat) : Int)]
theorem fillA_get (f : Nat → Nat) (k : Nat) (h : k < 4) : (fillA f k)[k]? = some (.int .u64 0) := by
  rcases (show k = 0 ∨ k = 1 ∨ k = 2 ∨ k = 3 by omega) with rfl | rfl | rfl | rfl <;> rfl
theorem fillA_set (f : Nat → Nat) (k : Nat) (h : k < 4) : (fillA f k).setIfInBounds k (.int .u64 (f k : Nat)) = fillA f (k + 1) := by
  rcases (show k = 0 ∨ k = 1 ∨ k = 2 ∨ k = 3 by omega) with rfl | rfl | rfl | rfl <;> rfl
theorem fill_step {w : World} {g t k : Nat} {f : Nat → Nat} {X : Int} (h : Blk w g t (fillA f k)) (hk : k < 4) (hX : X = (f k : Nat)) : Blk (w.setCell ⟨g, k, none⟩ (.int .u64 X)) g t (fillA f (k + 1)) := by
  rw [hX, ← fillA_set f k hk]; exact h.set_ k _
theorem fillA_four (s : NS) : fillA (wn s) 4 = #[.int .u64 (wn s 0 : Nat), .int .u64 (wn s 1 : Nat), .int .u64 (wn s 2 : Nat), .int .u64 (wn s 3 : Nat)] := rfl

theorem below_word0 (n : Int) (k : Nat) (hk : k < 4) (h : n ≤ 64 * k) : wn (belowS n) k = 0 :=
  (wn_eq (by decide) fun j hj => by
    rw [belowS_bit]
    have : ¬ (((64 * k + j : Nat) : Int) < n) := by omega
    simp; omega).symm
theorem below_word1 (n : Int) (k : Nat) (hk : k < 4) (h : 64 * (k + 1) ≤ n) : wn (belowS n) k = 18446744073709551615 :=
  (wn_eq (by decide) fun j hj => by
    rw [belowS_bit, show (18446744073709551615 : Nat) = 2 ^ 64 - 1 from rfl, Nat.testBit_two_pow_sub_one]
    have : (((64 * k + j : Nat) : Int) < n) := by omega
    have h2 : 64 * k + j < 256 := by omega
    simp [hj, h2]; omega).symm
theorem below_word2 (n : Int) (k : Nat) (hk : k < 4) (h0 : 64 * k < n) (h1 : n < 64 * (k + 1)) : wn (belowS n) k = 2 ^ (n - 64 * k).toNat - 1 := by
  have hm : (n - 64 * k).toNat < 64 := by omega
  have hp : 2 ^ (n - 64 * k).toNat < 2 ^ 64 := Nat.pow_lt_pow_right (by decide) hm
  refine (wn_eq (by omega) fun j hj => ?_).symm
  rw [belowS_bit, Nat.testBit_two_pow_sub_one]
  have h2 : 64 * k + j < 256 := by omega
  rw [decide_eq_true h2, Bool.true_and]
  exact decide_eq_decide.2 (by omega)

theorem if_neg_or_zero {n : Int} {k : Nat} (h : n ≤ 64 * (k : Int)) : (if n - 64 * (k : Int) < 0 then 0 else n - 64 * (k : Int)) = 0 := by split <;> omega
theorem below_pow (m : Int) (h0 : 0 ≤ m) (h1 : m ≤ 64) : IntKind.u64.wrap (IntKind.u64.wrap (2 ^ m.toNat) - 1) = ((2 ^ m.toNat - 1 : Nat) : Int) := by
  have hp : 2 ^ m.toNat ≤ 2 ^ 64 := Nat.pow_le_pow_right (by decide) (by omega)
  have h2 : 0 < 2 ^ m.toNat := Nat.two_pow_pos _
  have e : (2 : Int) ^ m.toNat = ((2 ^ m.toNat : Nat) : Int) := by simp
  rw [e, IntKind.wrap_u64, IntKind.wrap_u64]
  generalize 2 ^ m.toNat = p at *
  omega

set_option maxHeartbeats 1000000 in
theorem below_c (n : Int) (w : World) (h0 : 0 ≤ n) (h1 : n ≤ 256) :
    Calls Tryd.prog 57 #[.int .i64 n] w fun e w' => e = .returned (nsV (belowS n)) ∧ Below w.heap.size w w' := by
  go_enter Tryd.func57, Tryd.ntmps57
  go_wp2_with fail
  go_loopw [5] (fun i wr => ∃ k : Nat, k ≤ 4 ∧ i = .int .i64 k ∧ Blk wr w.heap.size 24 #[.int .u64 0, .int .u64 0, .int .u64 0, .int .u64 0] ∧ Blk wr (w.heap.size + 1) 24 (fillA (wn (belowS n)) k) ∧ Below w.heap.size w wr) (fun i _ => 4 - (intOf i).toNat)
  case atStart =>
    exact ⟨0, by omega, rfl, (Blk.new' (by simp)).alloc _, Blk.new' (by simp), ((Below.refl _ _).alloc (by simp) _).alloc (by simp) _⟩
  case round =>
    obtain ⟨k, hk, rfl, hB0, hB1, hbl⟩ := hrel
    have H0 := Lib.hid hB0; have H1 := Lib.hid hB1; have HL := Lib.hid hbl
    obtain ⟨r1, r2, r3⟩ := hB0.rules
    obtain ⟨q1, q2, q3⟩ := hB1.rules
    clear hB0 hB1 hbl
    by_cases hlt : k < 4
    · have c1 := fillA_get (wn (belowS n)) k hlt
      clear r1 r2 r3
      by_cases ha : n ≤ 64 * (k : Int)
      · go_wp2
        all_goals go_roundw
        all_goals first
          | (refine ⟨k + 1, by omega, by go_num, H0.out.far (by simp) _, fill_step H1.out hlt ?_, HL.out.setCell (by simp) _⟩)
          | (simp [intOf]; omega)
        rw [if_neg_or_zero ha, below_word0 n k hlt ha]; rfl
      · by_cases hb : n < 64 * ((k : Int) + 1)
        · go_wp2
          all_goals go_roundw
          all_goals first
            | (refine ⟨k + 1, by omega, by go_num, H0.out.far (by simp) _, fill_step H1.out hlt ?_, HL.out.setCell (by simp) _⟩)
            | (simp [intOf]; omega)
          rw [if_neg (by omega), below_pow _ (by omega) (by omega), below_word2 n k hlt (by omega) (by omega)]
        · go_wp2
          all_goals go_roundw
          all_goals first
            | (refine ⟨k + 1, by omega, by go_num, H0.out.far (by simp) _, fill_step H1.out hlt ?_, HL.out.setCell (by simp) _⟩)
            | (simp [intOf]; omega)
          rw [if_neg (show ¬ n - 64 * (k : Int) < 0 by omega), below_word1 n k hlt (by omega)]
          rw [show (if 64 < n - 64 * (k : Int) then 64 else n - 64 * (k : Int)) = 64 by split <;> omega, below_pow _ (by omega) (by omega)]
          rfl
    · obtain rfl : k = 4 := by omega
      have e4 := fillA_four (belowS n)
      go_wp2
      exact post_cell rfl rfl (H0.out.four _ _ _ _) Tryd.underlying24 rfl (by kernel_rfl) rfl ⟨rfl, below_four HL.out (by omega) _ _ _ _⟩

theorem span_eq (a b : Int) (h0 : 0 ≤ a) (h1 : b ≤ 255) : notS (belowS (b + 1)) (belowS a) = spanS a b := ns_ext fun i hi => by
  rw [notS_bit _ _ _ hi, belowS_bit, belowS_bit, spanS_bit]
  by_cases h2 : (i : Int) < b + 1
  · by_cases h3 : (i : Int) < a
    · have : ¬ a ≤ (i : Int) := by omega
      simp [hi, h3, this]
    · have h4 : a ≤ (i : Int) := by omega
      have h5 : (i : Int) ≤ b := by omega
      simp [hi, h2, h3, h4, h5]
  · have : ¬ (i : Int) ≤ b := by omega
    simp [h2, this]
theorem span_cut (a b : Int) : spanS (if a < 0 then 0 else a) (if 255 < b then 255 else b) = spanS a b := setOf_congr fun i hi => by
  congr 1
  · exact decide_eq_decide.2 (by split <;> omega)
  · exact decide_eq_decide.2 (by split <;> omega)
theorem span_none (a b : Int) (h : (if 255 < b then 255 else b) < (if a < 0 then 0 else a)) : spanS a b = emptyS := ns_ext fun i hi => by
  rw [spanS_bit, empty_bit]
  simp
  intro _ _
  split at h <;> split at h <;> omega
theorem wn_empty (k : Nat) : wn emptyS k = 0 := by unfold wn emptyS; simp

theorem empty_val : nsV emptyS = .agg #[.int .u64 0, .int .u64 0, .int .u64 0, .int .u64 0] := by simp [nsV, wn_empty]
theorem span_no (a b a' b' : Int) (w : World) (ha : (if a < 0 then 0 else a) = a') (hb : (if 255 < b then 255 else b) = b') (h : b' < a') :
    Calls Tryd.prog 27 #[.int .i64 a, .int .i64 b] w fun e w' => e = .returned (.agg #[.int .u64 0, .int .u64 0, .int .u64 0, .int .u64 0]) ∧ Below w.heap.size w w' := by
  go_enter Tryd.func27, Tryd.ntmps27
  go_wp2_with fail
  exact post_cell rfl rfl (Blk.new' rfl) Tryd.underlying24 rfl (by kernel_rfl) rfl ⟨rfl, (Below.refl _ _).alloc (by simp) _⟩
theorem span_yes (a b a' b' : Int) (w : World) (ha : (if a < 0 then 0 else a) = a') (hb : (if 255 < b then 255 else b) = b') (h0 : 0 ≤ a') (h1 : b' ≤ 255) (h : a' ≤ b') :
    Calls Tryd.prog 27 #[.int .i64 a, .int .i64 b] w fun e w' => e = .returned (nsV (spanS a' b')) ∧ Below w.heap.size w w' := by
  have hn := span_eq a' b' h0 h1
  have HN := Lib.hid hn
  clear hn
  go_enter Tryd.func27, Tryd.ntmps27
  go_wp2_with fail
  refine (below_c (b' + 1) _ (by omega) (by omega)).mono ?_
  rintro e w1 ⟨rfl, hb1⟩
  have h3 : Blk w1 w.heap.size 24 #[.int .u64 0, .int .u64 0, .int .u64 0, .int .u64 0] := Blk.after (Blk.new' (by simp)) hb1
  have HL1 := Lib.hid (below_then ((Below.refl w.heap.size w).alloc (by simp) _) (by simp) hb1)
  clear hb1
  go_wp2_with fail
  refine (below_c a' _ (by omega) (by omega)).mono ?_
  rintro e w2 ⟨rfl, hb2⟩
  have h4 := h3.after hb2
  have HL2 := Lib.hid (below_then HL1.out HL1.out.size hb2)
  clear h3 hb2 HL1
  go_wp2_with fail
  refine (not_c _ _ _).mono ?_
  rintro e w3 ⟨rfl, hb3⟩
  have h5 := h4.after hb3
  have HL3 := Lib.hid (below_then HL2.out HL2.out.size hb3)
  clear h4 hb3 HL2
  obtain ⟨r1, r2, r3⟩ := h5.rules
  have H5 := Lib.hid h5
  clear h5
  rw [HN.out]
  go_wp2
  exact post_cell rfl rfl (H5.out.four _ _ _ _) Tryd.underlying24 rfl (by kernel_rfl) rfl ⟨rfl, below_four HL3.out (by omega) _ _ _ _⟩
theorem span_c (a b : Int) (w : World) : Calls Tryd.prog 27 #[.int .i64 a, .int .i64 b] w fun e w' => e = .returned (nsV (spanS a b)) ∧ Below w.heap.size w w' := by
  by_cases h : (if 255 < b then 255 else b) < (if a < 0 then 0 else a)
  · rw [span_none a b h, empty_val]
    exact span_no a b _ _ w rfl rfl h
  · rw [← span_cut a b]
    exact span_yes a b _ _ w rfl rfl (by split <;> omega) (by split <;> omega) (by omega)
theorem count_c (s : NS) (w : World) :
    Calls Tryd.prog 24 #[nsV s] w fun e w' => e = .returned (.int .i64 (cnt s : Nat)) ∧ Below w.heap.size w w' := by
  have ix : ∀ (k : Nat) (w : World), k < 4 → (Instr.index 24 (nsV s) (.int .i64 (k : Int))).run Tryd.prog w = .ok (.int .u64 (wn s k : Nat)) w := by
    intro k w hk
    rcases (show k = 0 ∨ k = 1 ∨ k = 2 ∨ k = 3 by omega) with rfl | rfl | rfl | rfl <;> kernel_rfl
  have IX := Lib.hid ix
  clear ix
  go_enter Tryd.func24, Tryd.ntmps24
  go_wp2_with fail
  go_loop [3, 7] (fun n i => ∃ k : Nat, k ≤ 4 ∧ i = .int .i64 k ∧ n = .int .i64 (cntTo s k : Nat)) (fun _ i => 4 - (intOf i).toNat)
  case atStart => exact ⟨0, by omega, rfl, rfl⟩
  case round =>
    obtain ⟨k, hk, rfl, rfl⟩ := hrel
    have hc := cntTo_le s k
    have hw := wl_length (wn s k)
    by_cases hlt : k < 4
    · have i1 := fun w => IX.out k w hlt
      go_wp2_with (refine (pc_c (wn s k) (wn_le s k) _).mono ?_; rintro e w' ⟨rfl, rfl⟩)
      go_round
      case rel => exact ⟨k + 1, by omega, by go_num, by rw [cntTo_succ]; go_num⟩
      case measure => simp [intOf]; omega
    · obtain rfl : k = 4 := by omega
      go_wp2
      go_ret
      exact ⟨ret_i64 (by rw [cntTo_four]), (Below.refl _ _).alloc (Nat.le_refl _) _⟩
end Go.Proofs.YtmhbblkihjmonaaDoor
