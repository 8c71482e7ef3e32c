/- Safe: the walks of Mul64, Mul, Of. -/
import Derived.Test.YthoagfoekopioaaY2
set_option linter.unusedVariables false
namespace Go.Proofs.Ythoagfoekopioaa
open Go.RowKit

theorem mul_parts (x y x0 x1 y0 y1 : Nat) (hx : x = x1 * 4294967296 + x0) (hy : y = y1 * 4294967296 + y0) : x * y = x1 * y1 * 18446744073709551616 + (x1 * y0 + x0 * y1) * 4294967296 + x0 * y0 := by
  subst hx hy; grind
theorem mul_le32 {a b : Nat} (ha : a < 4294967296) (hb : b < 4294967296) : a * b ≤ 18446744065119617025 := by
  have := Nat.mul_le_mul (show a ≤ 4294967295 by omega) (show b ≤ 4294967295 by omega)
  omega
theorem wrapN {a : Nat} (h : a < 18446744073709551616) : IntKind.u64.wrap (a : Int) = (a : Int) := by rw [IntKind.wrap_u64]; omega
theorem mask32 (x : Nat) (hx : x < 18446744073709551616) : bits .and .u64 (x : Int) 4294967295 = ((x % 4294967296 : Nat) : Int) := by
  have := u64_and_nat x 4294967295 hx (by decide)
  rw [Nat.and_two_pow_sub_one_eq_mod x 32] at this
  exact this
theorem mul64_c (x y : Nat) (hx : x < 18446744073709551616) (hy : y < 18446744073709551616) (w : World) :
    Calls Try.prog 31 #[.int .u64 (x : Nat), .int .u64 (y : Nat)] w fun e w' => e = .returned (.tuple #[.int .u64 ((x * y / 18446744073709551616 : Nat) : Int), .int .u64 ((x * y % 18446744073709551616 : Nat) : Int)]) ∧ w = w' := by
  have mx := mask32 x hx
  have my := mask32 y hy
  obtain ⟨x0, hx0⟩ : ∃ x0, x0 = x % 4294967296 := ⟨_, rfl⟩
  obtain ⟨x1, hx1⟩ : ∃ x1, x1 = x / 4294967296 := ⟨_, rfl⟩
  obtain ⟨y0, hy0⟩ : ∃ y0, y0 = y % 4294967296 := ⟨_, rfl⟩
  obtain ⟨y1, hy1⟩ : ∃ y1, y1 = y / 4294967296 := ⟨_, rfl⟩
  rw [← hx0] at mx
  rw [← hy0] at my
  have dx : (x : Int) / 4294967296 = (x1 : Int) := by omega
  have dy : (y : Int) / 4294967296 = (y1 : Int) := by omega
  have key := mul_parts x y x0 x1 y0 y1 (by omega) (by omega)
  have b1 := mul_le32 (a := x0) (b := y0) (by omega) (by omega)
  have b2 := mul_le32 (a := x1) (b := y0) (by omega) (by omega)
  have b3 := mul_le32 (a := x0) (b := y1) (by omega) (by omega)
  have b4 := mul_le32 (a := x1) (b := y1) (by omega) (by omega)
  have p1 : IntKind.u64.wrap ((x0 : Int) * (y0 : Int)) = ((x0 * y0 : Nat) : Int) := by rw [← Int.natCast_mul]; exact wrapN (by omega)
  have p2 : IntKind.u64.wrap ((x1 : Int) * (y0 : Int)) = ((x1 * y0 : Nat) : Int) := by rw [← Int.natCast_mul]; exact wrapN (by omega)
  have p3 : IntKind.u64.wrap ((x0 : Int) * (y1 : Int)) = ((x0 * y1 : Nat) : Int) := by rw [← Int.natCast_mul]; exact wrapN (by omega)
  have p4 : IntKind.u64.wrap ((x1 : Int) * (y1 : Int)) = ((x1 * y1 : Nat) : Int) := by rw [← Int.natCast_mul]; exact wrapN (by omega)
  have p5 : IntKind.u64.wrap ((x : Int) * (y : Int)) = ((x * y % 18446744073709551616 : Nat) : Int) := by rw [← Int.natCast_mul, IntKind.wrap_u64]; omega
  generalize x0 * y0 = a at *
  generalize x1 * y0 = b at *
  generalize x0 * y1 = c at *
  generalize x1 * y1 = d at *
  generalize x * y = P at *
  obtain ⟨a1, ha1⟩ : ∃ a1, a1 = a / 4294967296 := ⟨_, rfl⟩
  have q1 : (a : Int) / 4294967296 = (a1 : Int) := by omega
  obtain ⟨t, ht⟩ : ∃ t, t = b + a1 := ⟨_, rfl⟩
  have q2 : IntKind.u64.wrap ((b : Int) + (a1 : Int)) = (t : Int) := by rw [IntKind.wrap_u64]; omega
  obtain ⟨t1, ht1⟩ : ∃ t1, t1 = t / 4294967296 := ⟨_, rfl⟩
  have q3 : (t : Int) / 4294967296 = (t1 : Int) := by omega
  have q4 := mask32 t (by omega)
  obtain ⟨t0, ht0⟩ : ∃ t0, t0 = t % 4294967296 := ⟨_, rfl⟩
  rw [← ht0] at q4
  obtain ⟨u, hu⟩ : ∃ u, u = t0 + c := ⟨_, rfl⟩
  have q5 : IntKind.u64.wrap ((t0 : Int) + (c : Int)) = (u : Int) := by rw [IntKind.wrap_u64]; omega
  obtain ⟨u1, hu1⟩ : ∃ u1, u1 = u / 4294967296 := ⟨_, rfl⟩
  have q6 : (u : Int) / 4294967296 = (u1 : Int) := by omega
  obtain ⟨v, hv⟩ : ∃ v, v = d + t1 := ⟨_, rfl⟩
  have q7 : IntKind.u64.wrap ((d : Int) + (t1 : Int)) = (v : Int) := by rw [IntKind.wrap_u64]; omega
  have q8 : IntKind.u64.wrap ((v : Int) + (u1 : Int)) = ((P / 18446744073709551616 : Nat) : Int) := by rw [IntKind.wrap_u64]; omega
  generalize P / 18446744073709551616 = H at *
  generalize P % 18446744073709551616 = L at *
  clear hx0 hx1 hy0 hy1 key ha1 ht ht1 ht0 hu hu1 hv b1 b2 b3 b4
  go_enter Try.func31, Try.ntmps31
  go_wp2
  go_ret2
  exact ⟨rfl, rfl⟩

/-! ### Mul -/
theorem mul_yes {a b : Int} (h : ¬ (a < 0 ↔ b < 0)) : a * b ≤ 0 := by
  rcases Int.lt_or_le a 0 with h1 | h1
  · exact Int.mul_nonpos_of_nonpos_of_nonneg (by omega) (by omega)
  · exact Int.mul_nonpos_of_nonneg_of_nonpos h1 (by omega)
theorem mul_no {a b : Int} (h : (a < 0 ↔ b < 0)) : 0 ≤ a * b := by
  rcases Int.lt_or_le a 0 with h1 | h1
  · exact Int.mul_nonneg_of_nonpos_of_nonpos (by omega) (by omega)
  · exact Int.mul_nonneg h1 (by omega)
theorem natAbs_le {a : Int} (h : inI a) : a.natAbs < 18446744073709551616 := by unfold inI at h; omega
theorem mul_w1 (a b : Int) (H L : Nat) (hs : (decide (a < 0) == decide (b < 0)) = true) (HS1 : Hid (∀ w, Calls Try.prog 32 #[.int .i64 a] w fun e w' => e = .returned (.int .u64 (a.natAbs : Nat)) ∧ w = w')) (HS2 : Hid (∀ w, Calls Try.prog 32 #[.int .i64 b] w fun e w' => e = .returned (.int .u64 (b.natAbs : Nat)) ∧ w = w'))
    (HM : Hid (∀ w, Calls Try.prog 31 #[.int .u64 (a.natAbs : Nat), .int .u64 (b.natAbs : Nat)] w fun e w' => e = .returned (.tuple #[.int .u64 (H : Nat), .int .u64 (L : Nat)]) ∧ w = w')) (hH : ((H : Int) != 0) = true) (w : World) :
    Calls Try.prog 24 #[.int .i64 a, .int .i64 b] w fun e w' => e = .returned (.tuple #[.int .i64 0, .int .i64 5]) ∧ w = w' := by
  go_enter Try.func24, Try.ntmps24
  go_wp2_with fail
  refine (HS1.out _).mono ?_
  rintro e w' ⟨rfl, rfl⟩
  go_wp2_with fail
  refine (HS2.out _).mono ?_
  rintro e w' ⟨rfl, rfl⟩
  go_wp2_with fail
  refine (HM.out _).mono ?_
  rintro e w' ⟨rfl, rfl⟩
  go_wp2
  go_ret2
  exact ⟨rfl, rfl⟩
theorem mul_w2 (a b : Int) (L : Nat) (hs : (decide (a < 0) == decide (b < 0)) = true) (HS1 : Hid (∀ w, Calls Try.prog 32 #[.int .i64 a] w fun e w' => e = .returned (.int .u64 (a.natAbs : Nat)) ∧ w = w')) (HS2 : Hid (∀ w, Calls Try.prog 32 #[.int .i64 b] w fun e w' => e = .returned (.int .u64 (b.natAbs : Nat)) ∧ w = w'))
    (HM : Hid (∀ w, Calls Try.prog 31 #[.int .u64 (a.natAbs : Nat), .int .u64 (b.natAbs : Nat)] w fun e w' => e = .returned (.tuple #[.int .u64 ((0 : Nat) : Nat), .int .u64 (L : Nat)]) ∧ w = w')) (hL : 9223372036854775807 < (L : Int)) (w : World) :
    Calls Try.prog 24 #[.int .i64 a, .int .i64 b] w fun e w' => e = .returned (.tuple #[.int .i64 0, .int .i64 5]) ∧ w = w' := by
  have e0 : ((0 : Nat) : Int) = 0 := rfl
  rw [e0] at HM
  go_enter Try.func24, Try.ntmps24
  go_wp2_with fail
  refine (HS1.out _).mono ?_
  rintro e w' ⟨rfl, rfl⟩
  go_wp2_with fail
  refine (HS2.out _).mono ?_
  rintro e w' ⟨rfl, rfl⟩
  go_wp2_with fail
  refine (HM.out _).mono ?_
  rintro e w' ⟨rfl, rfl⟩
  go_wp2
  go_ret2
  exact ⟨rfl, rfl⟩
theorem mul_w3 (a b : Int) (L : Nat) (hs : (decide (a < 0) == decide (b < 0)) = true) (HS1 : Hid (∀ w, Calls Try.prog 32 #[.int .i64 a] w fun e w' => e = .returned (.int .u64 (a.natAbs : Nat)) ∧ w = w')) (HS2 : Hid (∀ w, Calls Try.prog 32 #[.int .i64 b] w fun e w' => e = .returned (.int .u64 (b.natAbs : Nat)) ∧ w = w'))
    (HM : Hid (∀ w, Calls Try.prog 31 #[.int .u64 (a.natAbs : Nat), .int .u64 (b.natAbs : Nat)] w fun e w' => e = .returned (.tuple #[.int .u64 ((0 : Nat) : Nat), .int .u64 (L : Nat)]) ∧ w = w')) (hL : (L : Int) ≤ 9223372036854775807) (w : World) :
    Calls Try.prog 24 #[.int .i64 a, .int .i64 b] w fun e w' => e = .returned (.tuple #[.int .i64 (L : Nat), .int .i64 0]) ∧ w = w' := by
  have e0 : ((0 : Nat) : Int) = 0 := rfl
  rw [e0] at HM
  go_enter Try.func24, Try.ntmps24
  go_wp2_with fail
  refine (HS1.out _).mono ?_
  rintro e w' ⟨rfl, rfl⟩
  go_wp2_with fail
  refine (HS2.out _).mono ?_
  rintro e w' ⟨rfl, rfl⟩
  go_wp2_with fail
  refine (HM.out _).mono ?_
  rintro e w' ⟨rfl, rfl⟩
  go_wp2
  go_ret2
  exact ⟨rfl, rfl⟩
theorem mul_w4 (a b : Int) (H L : Nat) (hs : (decide (a < 0) == decide (b < 0)) = false) (HS1 : Hid (∀ w, Calls Try.prog 32 #[.int .i64 a] w fun e w' => e = .returned (.int .u64 (a.natAbs : Nat)) ∧ w = w')) (HS2 : Hid (∀ w, Calls Try.prog 32 #[.int .i64 b] w fun e w' => e = .returned (.int .u64 (b.natAbs : Nat)) ∧ w = w'))
    (HM : Hid (∀ w, Calls Try.prog 31 #[.int .u64 (a.natAbs : Nat), .int .u64 (b.natAbs : Nat)] w fun e w' => e = .returned (.tuple #[.int .u64 (H : Nat), .int .u64 (L : Nat)]) ∧ w = w')) (hH : ((H : Int) != 0) = true) (w : World) :
    Calls Try.prog 24 #[.int .i64 a, .int .i64 b] w fun e w' => e = .returned (.tuple #[.int .i64 0, .int .i64 5]) ∧ w = w' := by
  go_enter Try.func24, Try.ntmps24
  go_wp2_with fail
  refine (HS1.out _).mono ?_
  rintro e w' ⟨rfl, rfl⟩
  go_wp2_with fail
  refine (HS2.out _).mono ?_
  rintro e w' ⟨rfl, rfl⟩
  go_wp2_with fail
  refine (HM.out _).mono ?_
  rintro e w' ⟨rfl, rfl⟩
  go_wp2
  go_ret2
  exact ⟨rfl, rfl⟩
theorem mul_w5 (a b : Int) (L : Nat) (hs : (decide (a < 0) == decide (b < 0)) = false) (HS1 : Hid (∀ w, Calls Try.prog 32 #[.int .i64 a] w fun e w' => e = .returned (.int .u64 (a.natAbs : Nat)) ∧ w = w')) (HS2 : Hid (∀ w, Calls Try.prog 32 #[.int .i64 b] w fun e w' => e = .returned (.int .u64 (b.natAbs : Nat)) ∧ w = w'))
    (HM : Hid (∀ w, Calls Try.prog 31 #[.int .u64 (a.natAbs : Nat), .int .u64 (b.natAbs : Nat)] w fun e w' => e = .returned (.tuple #[.int .u64 ((0 : Nat) : Nat), .int .u64 (L : Nat)]) ∧ w = w')) (hL : 9223372036854775808 < (L : Int)) (w : World) :
    Calls Try.prog 24 #[.int .i64 a, .int .i64 b] w fun e w' => e = .returned (.tuple #[.int .i64 0, .int .i64 5]) ∧ w = w' := by
  have e0 : ((0 : Nat) : Int) = 0 := rfl
  rw [e0] at HM
  go_enter Try.func24, Try.ntmps24
  go_wp2_with fail
  refine (HS1.out _).mono ?_
  rintro e w' ⟨rfl, rfl⟩
  go_wp2_with fail
  refine (HS2.out _).mono ?_
  rintro e w' ⟨rfl, rfl⟩
  go_wp2_with fail
  refine (HM.out _).mono ?_
  rintro e w' ⟨rfl, rfl⟩
  go_wp2
  go_ret2
  exact ⟨rfl, rfl⟩
theorem mul_w6 (a b : Int) (L : Nat) (hs : (decide (a < 0) == decide (b < 0)) = false) (HS1 : Hid (∀ w, Calls Try.prog 32 #[.int .i64 a] w fun e w' => e = .returned (.int .u64 (a.natAbs : Nat)) ∧ w = w')) (HS2 : Hid (∀ w, Calls Try.prog 32 #[.int .i64 b] w fun e w' => e = .returned (.int .u64 (b.natAbs : Nat)) ∧ w = w'))
    (HM : Hid (∀ w, Calls Try.prog 31 #[.int .u64 (a.natAbs : Nat), .int .u64 (b.natAbs : Nat)] w fun e w' => e = .returned (.tuple #[.int .u64 ((0 : Nat) : Nat), .int .u64 (L : Nat)]) ∧ w = w')) (hL : (L : Int) ≤ 9223372036854775808) (w : World) :
    Calls Try.prog 24 #[.int .i64 a, .int .i64 b] w fun e w' => e = .returned (.tuple #[.int .i64 (-(L : Int)), .int .i64 0]) ∧ w = w' := by
  have e0 : ((0 : Nat) : Int) = 0 := rfl
  rw [e0] at HM
  obtain ⟨y, hy⟩ : ∃ y, y = IntKind.u64.wrap (-(L : Int)) := ⟨_, rfl⟩
  have hy2 := hy.symm
  have hz : IntKind.i64.wrap y = -(L : Int) := by rw [hy, IntKind.wrap_u64, IntKind.wrap_i64]; omega
  clear hy
  go_enter Try.func24, Try.ntmps24
  go_wp2_with fail
  refine (HS1.out _).mono ?_
  rintro e w' ⟨rfl, rfl⟩
  go_wp2_with fail
  refine (HS2.out _).mono ?_
  rintro e w' ⟨rfl, rfl⟩
  go_wp2_with fail
  refine (HM.out _).mono ?_
  rintro e w' ⟨rfl, rfl⟩
  go_wp2
  go_ret2
  exact ⟨rfl, rfl⟩
theorem mul_c (a b : Int) (ha : inI a) (hb : inI b) (w : World) : Calls Try.prog 24 #[.int .i64 a, .int .i64 b] w fun e w' => e = .returned (.tuple #[.int .i64 (okV (a * b)), .int .i64 (okE (a * b))]) ∧ w = w' := by
  have HS1 := Lib.hid (size_c a ha)
  have HS2 := Lib.hid (size_c b hb)
  have hm := mul64_c a.natAbs b.natAbs (natAbs_le ha) (natAbs_le hb)
  rw [← Int.natAbs_mul] at hm
  obtain ⟨P, hP⟩ : ∃ P, P = (a * b).natAbs := ⟨_, rfl⟩
  rw [← hP] at hm
  obtain ⟨H, hH⟩ : ∃ H, H = P / 18446744073709551616 := ⟨_, rfl⟩
  obtain ⟨L, hL⟩ : ∃ L, L = P % 18446744073709551616 := ⟨_, rfl⟩
  rw [← hH, ← hL] at hm
  have HM := Lib.hid hm
  have hs1 := @mul_yes a b
  have hs2 := @mul_no a b
  obtain ⟨p, hp⟩ : ∃ p, p = a * b := ⟨_, rfl⟩
  rw [← hp] at hP hs1 hs2 ⊢
  have htest : (decide (a < 0) == decide (b < 0)) = decide (a < 0 ↔ b < 0) := by by_cases h1 : a < 0 <;> by_cases h2 : b < 0 <;> simp [h1, h2]
  by_cases hs : (a < 0 ↔ b < 0)
  · have hp0 := hs2 hs
    rw [decide_eq_true hs] at htest
    rcases Nat.eq_zero_or_pos H with e | e
    · subst e
      rcases Int.lt_or_le 9223372036854775807 (L : Int) with h | h
      · have hf : fits p = false := by rw [← Bool.not_eq_true, fits_iff]; omega
        rw [okV_no hf, okE_no hf]
        exact mul_w2 a b L htest HS1 HS2 HM h w
      · have hf : fits p = true := by rw [fits_iff]; omega
        rw [okV_yes hf, okE_yes hf, show p = (L : Int) by omega]
        exact mul_w3 a b L htest HS1 HS2 HM h w
    · have hf : fits p = false := by rw [← Bool.not_eq_true, fits_iff]; omega
      rw [okV_no hf, okE_no hf]
      exact mul_w1 a b H L htest HS1 HS2 HM (by simp; omega) w
  · have hp0 := hs1 hs
    rw [decide_eq_false hs] at htest
    rcases Nat.eq_zero_or_pos H with e | e
    · subst e
      rcases Int.lt_or_le 9223372036854775808 (L : Int) with h | h
      · have hf : fits p = false := by rw [← Bool.not_eq_true, fits_iff]; omega
        rw [okV_no hf, okE_no hf]
        exact mul_w5 a b L htest HS1 HS2 HM h w
      · have hf : fits p = true := by rw [fits_iff]; omega
        rw [okV_yes hf, okE_yes hf, show p = -(L : Int) by omega]
        exact mul_w6 a b L htest HS1 HS2 HM h w
    · have hf : fits p = false := by rw [← Bool.not_eq_true, fits_iff]; omega
      rw [okV_no hf, okE_no hf]
      exact mul_w4 a b H L htest HS1 HS2 HM (by simp; omega) w
end Go.Proofs.Ythoagfoekopioaa
