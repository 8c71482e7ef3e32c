/- Safe: the walks of Of, Halves, Sum. -/
import Derived.Test.YthoagfoekopioaaY3
import Derived.Test.YthoagfoekopioaaRd
set_option linter.unusedVariables false
namespace Go.Proofs.Ythoagfoekopioaa
open Go.RowKit

theorem of_no (s n : Int) (h : s < 0 ∨ n < 0) (w : World) : Calls Try.prog 11 #[.int .i64 s, .int .i64 n] w fun e w' => e = .returned (.tuple #[.int .i64 0, .int .i64 1]) ∧ w = w' := by
  by_cases h1 : s < 0
  · go_enter Try.func11, Try.ntmps11
    go_wp2; go_ret2; exact ⟨rfl, rfl⟩
  · have h2 : n < 0 := by omega
    go_enter Try.func11, Try.ntmps11
    go_wp2; go_ret2; exact ⟨rfl, rfl⟩
theorem or_join (H L : Nat) (hH : H < 2147483648) (hL : L < 18446744073709551616) : bits .or .u64 (IntKind.u64.wrap ((H : Int) * 4294967296)) ((L : Int) / 4294967296) = ((H * 4294967296 + L / 4294967296 : Nat) : Int) := by
  have e1 : IntKind.u64.wrap ((H : Int) * 4294967296) = ((H * 4294967296 : Nat) : Int) := by rw [IntKind.wrap_u64]; omega
  have e2 : (L : Int) / 4294967296 = ((L / 4294967296 : Nat) : Int) := by omega
  rw [e1, e2, u64_or_nat _ _ (by omega) (by omega), nat_join 32 _ _ (by omega) (by omega)]
set_option maxRecDepth 100000 in
set_option maxHeartbeats 1000000 in
theorem of_yes (s n : Nat) (hs : s ≤ 9223372036854775807) (hn : n ≤ 9223372036854775807) (w : World) : Calls Try.prog 11 #[.int .i64 (s : Nat), .int .i64 (n : Nat)] w fun e w' => e = .returned (.tuple #[.int .i64 (okV (ofX s n)), .int .i64 (okE (ofX s n))]) ∧ w = w' := by
  have hm := mul64_c s n (by omega) (by omega)
  have eX : ofX (s : Nat) (n : Nat) = ((s * n / 4294967296 : Nat) : Int) := by unfold ofX; omega
  rw [eX]
  clear eX
  generalize s * n = P at *
  obtain ⟨H, hH⟩ : ∃ H, H = P / 18446744073709551616 := ⟨_, rfl⟩
  obtain ⟨L, hL⟩ : ∃ L, L = P % 18446744073709551616 := ⟨_, rfl⟩
  rw [← hH, ← hL] at hm
  obtain ⟨Hi, hHi⟩ : ∃ Hi : Int, Hi = (H : Int) := ⟨_, rfl⟩
  rw [← hHi] at hm
  have HM := Lib.hid hm
  have c1 : IntKind.u64.wrap (s : Int) = s := by rw [IntKind.wrap_u64]; omega
  have c2 : IntKind.u64.wrap (n : Int) = n := by rw [IntKind.wrap_u64]; omega
  clear hm
  by_cases h : H < 2147483648
  · have hf : fits ((P / 4294967296 : Nat) : Int) = true := by rw [fits_iff]; omega
    rw [okV_yes hf, okE_yes hf]
    have hj := or_join H L h (by omega)
    rw [show H * 4294967296 + L / 4294967296 = P / 4294967296 by omega, ← hHi] at hj
    have hw : IntKind.i64.wrap ((P / 4294967296 : Nat) : Int) = ((P / 4294967296 : Nat) : Int) := by rw [IntKind.wrap_i64]; omega
    generalize P / 4294967296 = V at *
    have h' : Hi < 2147483648 := by omega
    clear hH hL hf h hs hn hHi
    go_enter Try.func11, Try.ntmps11
    go_wp2_with fail
    refine (HM.out _).mono ?_
    rintro e w' ⟨rfl, rfl⟩
    go_wp2
    go_ret2
    exact ⟨rfl, rfl⟩
  · have hf : fits ((P / 4294967296 : Nat) : Int) = false := by rw [← Bool.not_eq_true, fits_iff]; omega
    rw [okV_no hf, okE_no hf]
    have h' : 2147483648 ≤ Hi := by omega
    clear hH hL hf h hs hn hHi
    go_enter Try.func11, Try.ntmps11
    go_wp2_with fail
    refine (HM.out _).mono ?_
    rintro e w' ⟨rfl, rfl⟩
    go_wp2
    go_ret2
    exact ⟨rfl, rfl⟩
theorem sof_c (s n : Int) (hs : inI s) (hn : inI n) (w : World) : Calls Try.prog 11 #[.int .i64 s, .int .i64 n] w fun e w' => e = .returned (.tuple #[.int .i64 (shofV s n), .int .i64 (shofE s n)]) ∧ w = w' := by
  unfold inI at hs hn
  by_cases h : s < 0 ∨ n < 0
  · unfold shofV shofE; rw [if_pos h, if_pos h]; exact of_no s n h w
  · unfold shofV shofE; rw [if_neg h, if_neg h]
    obtain ⟨a, rfl⟩ := Int.eq_ofNat_of_zero_le (show 0 ≤ s by omega)
    obtain ⟨b, rfl⟩ := Int.eq_ofNat_of_zero_le (show 0 ≤ n by omega)
    exact of_yes a b (by omega) (by omega) w

/-! ### Halves -/
theorem halves_small (n k : Int) (h : k < 1) (w : World) : Calls Try.prog 12 #[.int .i64 n, .int .i64 k] w fun e w' => e = .returned (.int .i64 n) ∧ w = w' := by
  go_enter Try.func12, Try.ntmps12
  go_wp2; go_ret; exact ⟨rfl, rfl⟩
theorem halves_big (n k : Int) (h : 62 < k) (w : World) : Calls Try.prog 12 #[.int .i64 n, .int .i64 k] w fun e w' => e = .returned (.int .i64 0) ∧ w = w' := by
  go_enter Try.func12, Try.ntmps12
  go_wp2; go_ret; exact ⟨rfl, rfl⟩
theorem halves_pos (n : Int) (k : Nat) (hk : 1 ≤ k) (hk2 : k ≤ 62) (hn : 0 ≤ n) (hn2 : n ≤ 9223372036854775807) (w : World) : Calls Try.prog 12 #[.int .i64 n, .int .i64 (k : Nat)] w fun e w' => e = .returned (.int .i64 (n.tdiv (2 ^ k))) ∧ w = w' := by
  go_enter Try.func12, Try.ntmps12
  go_wp2
  go_ret
  exact ⟨ret_i (by rw [Int.tdiv_eq_ediv_of_nonneg hn]), rfl⟩
theorem halves_neg (n : Int) (k : Nat) (hk : 1 ≤ k) (hk2 : k ≤ 62) (hn : n < 0) (hn2 : -9223372036854775808 ≤ n) (w : World) : Calls Try.prog 12 #[.int .i64 n, .int .i64 (k : Nat)] w fun e w' => e = .returned (.int .i64 (n.tdiv (2 ^ k))) ∧ w = w' := by
  have HS := Lib.hid (size_c n (by unfold inI; omega))
  have hp : (1 : Int) ≤ 2 ^ k := by
    have : (0 : Int) < 2 ^ k := Int.pow_pos (by omega)
    omega
  obtain ⟨q, hq⟩ : ∃ q : Int, q = (n.natAbs : Int) / 2 ^ k := ⟨_, rfl⟩
  have hq2 : (n.natAbs : Int) / 2 ^ k = q := hq.symm
  have hp2 : (2 : Int) ≤ 2 ^ k := by
    obtain ⟨j, rfl⟩ : ∃ j, k = j + 1 := ⟨k - 1, by omega⟩
    rw [Int.pow_succ]
    have : (0 : Int) < 2 ^ j := Int.pow_pos (by omega)
    omega
  have hq3 : 0 ≤ q := by rw [hq]; exact Int.ediv_nonneg (by omega) (by omega)
  have hq4 : q ≤ 4611686018427387904 := by
    have h1 := Int.ediv_mul_le (n.natAbs : Int) (b := 2 ^ k) (by omega)
    rw [← hq] at h1
    have h2 := Int.mul_le_mul_of_nonneg_left hp2 hq3
    omega
  have e : n.tdiv (2 ^ k) = -q := by
    rw [hq, ← Int.tdiv_eq_ediv_of_nonneg (by omega), ← Int.neg_tdiv]
    congr 1
    omega
  rw [e]
  clear e hq hp hp2
  go_enter Try.func12, Try.ntmps12
  go_wp2_with fail
  refine (HS.out _).mono ?_
  rintro e w' ⟨rfl, rfl⟩
  go_wp2
  go_ret
  exact ⟨ret_i (by first | rfl | omega), rfl⟩
theorem rhalves_big (n k : Int) (h : 62 < k) (w : World) : Calls Try.prog 17 #[.int .i64 n, .int .i64 k] w fun e w' => e = .returned (.int .i64 0) ∧ w = w' := by
  go_enter Try.func17, Try.ntmps17
  go_wp2; go_ret; exact ⟨rfl, rfl⟩
theorem tdiv_two_pow (n : Int) (j : Nat) : (n.tdiv (2 ^ j)).tdiv 2 = n.tdiv (2 ^ (j + 1)) := by
  rw [tdiv_tdiv_pos (Int.pow_nonneg (by omega)), Int.pow_succ]
theorem rhalves_in (n k : Int) (hn : inI n) (hk : k ≤ 62) (w : World) : Calls Try.prog 17 #[.int .i64 n, .int .i64 k] w fun e w' => e = .returned (.int .i64 (n.tdiv (2 ^ k.toNat))) ∧ w = w' := by
  have HN := Lib.hid hn
  clear hn
  go_enter Try.func17, Try.ntmps17
  go_wp2
  go_loop [0, 5] (fun m i => ∃ j : Nat, j ≤ k.toNat ∧ i = .int .i64 j ∧ m = .int .i64 (n.tdiv (2 ^ j))) (fun _ i => k.toNat - (intOf i).toNat)
  case atStart => exact ⟨0, by omega, rfl, by simp⟩
  case round =>
    obtain ⟨j, hj, rfl, rfl⟩ := hrel
    have HT := Lib.hid (tdiv_two_pow n j)
    have hb := tdiv_bounds n (2 ^ j) (by have : (0 : Int) < 2 ^ j := Int.pow_pos (by omega); omega)
    have hin := HN.out
    unfold inI at hin
    obtain ⟨m, hm⟩ : ∃ m, m = n.tdiv (2 ^ j) := ⟨_, rfl⟩
    have hmb : -9223372036854775808 ≤ m ∧ m ≤ 9223372036854775807 := by rw [← hm] at hb; omega
    rw [← hm] at HT ⊢
    have hm2 := hm.symm
    have HM := Lib.hid hm
    clear hb hin hm hm2
    have hw : IntKind.i64.wrap (m.tdiv 2) = m.tdiv 2 := by have := tdiv_bounds m 2 (by omega); rw [IntKind.wrap_i64]; omega
    by_cases hlt : (j : Int) < k
    · go_wp2
      go_round
      case rel => exact ⟨j + 1, by omega, by go_num, by rw [HT.out]⟩
      case measure => simp [intOf]; omega
    · obtain rfl : k.toNat = j := by omega
      go_wp2
      go_ret
      exact ⟨by first | rfl | exact ret_i HM.out, rfl⟩
theorem halves_c (n k : Int) (hn : inI n) (w : World) : Calls Try.prog 12 #[.int .i64 n, .int .i64 k] w fun e w' => e = .returned (.int .i64 (halvesV n k)) ∧ w = w' := by
  unfold inI at hn
  unfold halvesV
  by_cases h1 : k < 1
  · rw [if_pos h1]; exact halves_small n k h1 w
  · by_cases h2 : 62 < k
    · rw [if_neg h1, if_pos h2]; exact halves_big n k h2 w
    · rw [if_neg h1, if_neg h2]
      obtain ⟨j, rfl⟩ := Int.eq_ofNat_of_zero_le (show 0 ≤ k by omega)
      rw [Int.toNat_natCast]
      by_cases h3 : n < 0
      · exact halves_neg n j (by omega) (by omega) h3 hn.1 w
      · exact halves_pos n j (by omega) (by omega) (by omega) hn.2 w
theorem rhalves_c (n k : Int) (hn : inI n) (w : World) : Calls Try.prog 17 #[.int .i64 n, .int .i64 k] w fun e w' => e = .returned (.int .i64 (halvesV n k)) ∧ w = w' := by
  unfold halvesV
  by_cases h2 : 62 < k
  · rw [if_neg (by omega), if_pos h2]; exact rhalves_big n k h2 w
  · by_cases h1 : k < 1
    · have := rhalves_in n k hn (by omega) w
      rw [show k.toNat = 0 by omega] at this
      rw [if_pos h1]
      simpa using this
    · rw [if_neg h1, if_neg h2]; exact rhalves_in n k hn (by omega) w

/-! ### Sum -/
theorem sumF_snoc : ∀ (l : List Int) (n x : Int), sumF n (l ++ [x]) = (sumF n l).bind fun m => if fits (m + x) then some (m + x) else none
  | [], n, x => by simp [sumF]
  | y :: l, n, x => by
    simp only [List.cons_append, sumF]
    split
    · exact sumF_snoc l _ x
    · rfl
theorem sumF_none_append : ∀ (l k : List Int) (n : Int), sumF n l = none → sumF n (l ++ k) = none
  | [], k, n, h => by simp [sumF] at h
  | y :: l, k, n, h => by
    simp only [List.cons_append, sumF] at h ⊢
    split
    · rename_i hf; rw [if_pos hf] at h; exact sumF_none_append l k _ h
    · rfl
theorem sumF_in : ∀ (l : List Int) (n m : Int), inI n → sumF n l = some m → inI m
  | [], n, m, hn, h => by simp [sumF] at h; subst h; exact hn
  | y :: l, n, m, hn, h => by
    simp only [sumF] at h
    split at h
    · rename_i hf; exact sumF_in l _ m (by rw [fits_iff] at hf; exact hf) h
    · cases h
end Go.Proofs.Ythoagfoekopioaa
