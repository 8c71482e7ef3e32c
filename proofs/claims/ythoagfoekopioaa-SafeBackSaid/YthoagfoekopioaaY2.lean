/- Safe: the walks of Clamp, Most, Int32, Halves, size, Mul64, Mul, Of. -/
import Derived.Test.YthoagfoekopioaaY1
set_option linter.unusedVariables false
namespace Go.Proofs.Ythoagfoekopioaa
open Go.RowKit

theorem clamp_c (a lo hi : Int) (w : World) : Calls Try.prog 20 #[.int .i64 a, .int .i64 lo, .int .i64 hi] w fun e w' => e = .returned (.int .i64 (clampV a lo hi)) ∧ w = w' := by
  by_cases h1 : a < lo
  · have e : clampV a lo hi = lo := by unfold clampV; rw [if_pos h1]
    rw [e]; clear e
    go_enter Try.func20, Try.ntmps20
    go_wp2; go_ret; exact ⟨rfl, rfl⟩
  · by_cases h2 : hi < a
    · have e : clampV a lo hi = hi := by unfold clampV; rw [if_neg h1, if_pos h2]
      rw [e]; clear e
      go_enter Try.func20, Try.ntmps20
      go_wp2; go_ret; exact ⟨rfl, rfl⟩
    · have e : clampV a lo hi = a := by unfold clampV; rw [if_neg h1, if_neg h2]
      rw [e]; clear e
      go_enter Try.func20, Try.ntmps20
      go_wp2; go_ret; exact ⟨rfl, rfl⟩
theorem most_c (a b : Int) (ha : inI a) (hb : inI b) (w : World) : Calls Try.prog 28 #[.int .i64 a, .int .i64 b] w fun e w' => e = .returned (.int .i64 (mostV (a + b))) ∧ w = w' := by
  have hc := add_c a b ha hb
  unfold inI at ha hb
  cases h : fits (a + b)
  · rw [okV_no h, okE_no h] at hc
    rw [← Bool.not_eq_true, fits_iff] at h
    have HC := Lib.hid hc
    by_cases h2 : 0 < a
    · have e : mostV (a + b) = 9223372036854775807 := by unfold mostV; rw [if_neg (by omega), if_pos (by omega)]
      rw [e]; clear e hc h ha hb
      go_enter Try.func28, Try.ntmps28
      go_wp2_with fail
      refine (HC.out _).mono ?_
      rintro e w' ⟨rfl, rfl⟩
      go_wp2; go_ret; exact ⟨rfl, rfl⟩
    · have e : mostV (a + b) = -9223372036854775808 := by unfold mostV; rw [if_pos (by omega)]
      rw [e]; clear e hc h ha hb
      go_enter Try.func28, Try.ntmps28
      go_wp2_with fail
      refine (HC.out _).mono ?_
      rintro e w' ⟨rfl, rfl⟩
      go_wp2; go_ret; exact ⟨rfl, rfl⟩
  · rw [okV_yes h, okE_yes h] at hc
    rw [fits_iff] at h
    have HC := Lib.hid hc
    have e : mostV (a + b) = a + b := by unfold mostV; rw [if_neg (by omega), if_neg (by omega)]
    rw [e]; clear e hc
    go_enter Try.func28, Try.ntmps28
    go_wp2_with fail
    refine (HC.out _).mono ?_
    rintro e w' ⟨rfl, rfl⟩
    go_wp2; go_ret; exact ⟨rfl, rfl⟩
theorem rmost_c (a b : Int) (ha : inI a) (hb : inI b) (w : World) : Calls Try.prog 29 #[.int .i64 a, .int .i64 b] w fun e w' => e = .returned (.int .i64 (mostV (a + b))) ∧ w = w' := by
  have hc := radd_c a b ha hb
  unfold inI at ha hb
  cases h : fits (a + b)
  · rw [okV_no h, okE_no h] at hc
    rw [← Bool.not_eq_true, fits_iff] at h
    have HC := Lib.hid hc
    by_cases h2 : 0 < b
    · have e : mostV (a + b) = 9223372036854775807 := by unfold mostV; rw [if_neg (by omega), if_pos (by omega)]
      rw [e]; clear e hc h ha hb
      go_enter Try.func29, Try.ntmps29
      go_wp2_with fail
      refine (HC.out _).mono ?_
      rintro e w' ⟨rfl, rfl⟩
      go_wp2; go_ret; exact ⟨rfl, rfl⟩
    · have e : mostV (a + b) = -9223372036854775808 := by unfold mostV; rw [if_pos (by omega)]
      rw [e]; clear e hc h ha hb
      go_enter Try.func29, Try.ntmps29
      go_wp2_with fail
      refine (HC.out _).mono ?_
      rintro e w' ⟨rfl, rfl⟩
      go_wp2; go_ret; exact ⟨rfl, rfl⟩
  · rw [okV_yes h, okE_yes h] at hc
    rw [fits_iff] at h
    have HC := Lib.hid hc
    have e : mostV (a + b) = a + b := by unfold mostV; rw [if_neg (by omega), if_neg (by omega)]
    rw [e]; clear e hc
    go_enter Try.func29, Try.ntmps29
    go_wp2_with fail
    refine (HC.out _).mono ?_
    rintro e w' ⟨rfl, rfl⟩
    go_wp2; go_ret; exact ⟨rfl, rfl⟩
theorem rclamp_c (a lo hi : Int) (w : World) : Calls Try.prog 21 #[.int .i64 a, .int .i64 lo, .int .i64 hi] w fun e w' => e = .returned (.int .i64 (clampV a lo hi)) ∧ w = w' := by
  by_cases h1 : a < lo
  · have e : clampV a lo hi = lo := by unfold clampV; rw [if_pos h1]
    rw [e]; clear e
    go_enter Try.func21, Try.ntmps21
    go_wp2; go_ret; exact ⟨rfl, rfl⟩
  · by_cases h2 : hi < a
    · have e : clampV a lo hi = hi := by unfold clampV; rw [if_neg h1, if_pos h2]
      rw [e]; clear e
      go_enter Try.func21, Try.ntmps21
      go_wp2; go_ret; exact ⟨rfl, rfl⟩
    · have e : clampV a lo hi = a := by unfold clampV; rw [if_neg h1, if_neg h2]
      rw [e]; clear e
      go_enter Try.func21, Try.ntmps21
      go_wp2; go_ret; exact ⟨rfl, rfl⟩

/-! ### Int32 -/
theorem wrap_i32 (n : Int) (h0 : -2147483648 ≤ n) (h1 : n ≤ 2147483647) : IntKind.i32.wrap n = n := by simp [IntKind.wrap, IntKind.bits, IntKind.signed]; omega
theorem wrap_i32_in (n : Int) : -2147483648 ≤ IntKind.i32.wrap n ∧ IntKind.i32.wrap n ≤ 2147483647 := by simp [IntKind.wrap, IntKind.bits, IntKind.signed]; omega
theorem int32_c (n : Int) (hn : inI n) (w : World) : Calls Try.prog 15 #[.int .i64 n] w fun e w' => e = .returned (.tuple #[.int .i32 (int32V n), .int .i64 (int32E n)]) ∧ w = w' := by
  have hw := wrap_i32_in n
  by_cases h : n < -2147483648 ∨ 2147483647 < n
  · have e1 : int32V n = 0 := by unfold int32V; rw [if_pos h]
    have e2 : int32E n = 5 := by unfold int32E; rw [if_pos h]
    rw [e1, e2]; clear e1 e2
    obtain ⟨x, hx⟩ : ∃ x, x = IntKind.i32.wrap n := ⟨_, rfl⟩
    rw [← hx] at hw
    have hx2 := hx.symm
    have hne : (x == n) = false := by simp; omega
    have hxx : IntKind.i64.wrap x = x := by rw [IntKind.wrap_i64]; omega
    clear hx h hw
    go_enter Try.func15, Try.ntmps15
    go_wp2
    all_goals first | (go_ret2; exact ⟨rfl, rfl⟩) | skip
  · have e1 : int32V n = n := by unfold int32V; rw [if_neg h]
    have e2 : int32E n = 0 := by unfold int32E; rw [if_neg h]
    rw [e1, e2]; clear e1 e2 hw
    have hx2 := wrap_i32 n (by omega) (by omega)
    have hxx : IntKind.i64.wrap n = n := by unfold inI at hn; rw [IntKind.wrap_i64]; omega
    clear h
    go_enter Try.func15, Try.ntmps15
    go_wp2
    all_goals first | (go_ret2; exact ⟨rfl, rfl⟩) | skip
theorem rint32_c (n : Int) (hn : inI n) (w : World) : Calls Try.prog 16 #[.int .i64 n] w fun e w' => e = .returned (.tuple #[.int .i32 (int32V n), .int .i64 (int32E n)]) ∧ w = w' := by
  by_cases h1 : n < -2147483648
  · have e1 : int32V n = 0 := by unfold int32V; rw [if_pos (by omega)]
    have e2 : int32E n = 5 := by unfold int32E; rw [if_pos (by omega)]
    rw [e1, e2]; clear e1 e2
    go_enter Try.func16, Try.ntmps16
    go_wp2
    go_ret2; exact ⟨rfl, rfl⟩
  · by_cases h2 : 2147483647 < n
    · have e1 : int32V n = 0 := by unfold int32V; rw [if_pos (by omega)]
      have e2 : int32E n = 5 := by unfold int32E; rw [if_pos (by omega)]
      rw [e1, e2]; clear e1 e2
      go_enter Try.func16, Try.ntmps16
      go_wp2
      go_ret2; exact ⟨rfl, rfl⟩
    · have e1 : int32V n = n := by unfold int32V; rw [if_neg (by omega)]
      have e2 : int32E n = 0 := by unfold int32E; rw [if_neg (by omega)]
      have hx2 := wrap_i32 n (by omega) (by omega)
      rw [e1, e2]; clear e1 e2
      go_enter Try.func16, Try.ntmps16
      go_wp2
      go_ret2; exact ⟨rfl, rfl⟩

/-! ### size -/
theorem size_c (n : Int) (hn : inI n) (w : World) : Calls Try.prog 32 #[.int .i64 n] w fun e w' => e = .returned (.int .u64 (n.natAbs : Nat)) ∧ w = w' := by
  unfold inI at hn
  by_cases h : n < 0
  · have e1 : IntKind.u64.wrap n = n + 18446744073709551616 := by rw [IntKind.wrap_u64]; omega
    have e2 : IntKind.u64.wrap (-(n + 18446744073709551616)) = (n.natAbs : Int) := by rw [IntKind.wrap_u64]; omega
    go_enter Try.func32, Try.ntmps32
    go_wp2
    go_ret
    exact ⟨ret_i (by first | rfl | (rw [e1, e2]) | (rw [IntKind.wrap_u64]; omega)), rfl⟩
  · have e1 : IntKind.u64.wrap n = n := by rw [IntKind.wrap_u64]; omega
    go_enter Try.func32, Try.ntmps32
    go_wp2
    go_ret
    exact ⟨ret_i (by omega), rfl⟩
theorem rsize_c (n : Int) (hn : inI n) (w : World) : Calls Try.prog 35 #[.int .i64 n] w fun e w' => e = .returned (.int .u64 (n.natAbs : Nat)) ∧ w = w' := by
  unfold inI at hn
  by_cases h : n < 0
  · have e1 : IntKind.u64.wrap n = n + 18446744073709551616 := by rw [IntKind.wrap_u64]; omega
    have e2 : IntKind.u64.wrap (-(n + 18446744073709551616)) = (n.natAbs : Int) := by rw [IntKind.wrap_u64]; omega
    go_enter Try.func35, Try.ntmps35
    go_wp2
    go_ret
    exact ⟨ret_i (by first | rfl | (rw [e1, e2]) | (rw [IntKind.wrap_u64]; omega)), rfl⟩
  · have e1 : IntKind.u64.wrap n = n := by rw [IntKind.wrap_u64]; omega
    go_enter Try.func35, Try.ntmps35
    go_wp2
    go_ret
    exact ⟨ret_i (by omega), rfl⟩
end Go.Proofs.Ythoagfoekopioaa
