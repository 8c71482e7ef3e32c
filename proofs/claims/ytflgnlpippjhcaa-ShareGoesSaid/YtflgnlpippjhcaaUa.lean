/- Cut by program (cut_tpl.py) out of my templates XY1 XY2 XY3 XY4 XY6 XY7 XY8. -/
import Derived.Test.YtflgnlpippjhcaaYp
import Derived.Test.YtflgnlpippjhcaaRd
import Derived.Test.YtflgnlpippjhcaaBk
import Derived.Test.YtflgnlpippjhcaaProg
import Derived.Below
import Derived.WalkKit
import Derived.Laws.BitsAllLaws
import Derived.Laws.Bits64
import Derived.Laws.Shifts
import Derived.WalkLawsBesides
import Derived.WalkSpells
import Derived.Deep.QuietTactic
import Derived.BigQuiet
import Derived.Lib.Hide
import Derived.Outline
import Derived.IntWalk
import Derived.Lib.BitFns
import Derived.Lib.Tables
/- Safe: the walks of Add, Sub, Clamp, Most, Sum, Int32 of both sides. -/
set_option linter.unusedVariables false
namespace Go.Proofs.Ytflgnlpippjhcaa
open Go.RowKit

theorem ret_two {k j : IntKind} {a b c d : Int} (h1 : a = b) (h2 : c = d) : Ending.returned (.tuple #[.int k a, .int j c]) = .returned (.tuple #[.int k b, .int j d]) := by rw [h1, h2]
theorem ret_i {k : IntKind} {a b : Int} (h : a = b) : Ending.returned (.int k a) = .returned (.int k b) := by rw [h]

/-! ### the sign of an and, an xor -/
theorem wrap_toInt (x : BitVec 64) : IntKind.i64.wrap (x.toNat : Int) = x.toInt := by
  rw [IntKind.wrap_i64, BitVec.toInt_eq_toNat_cond]
  have := x.isLt
  split <;> omega
theorem wrap_neg_iff (x : BitVec 64) : IntKind.i64.wrap (x.toNat : Int) < 0 ↔ x.msb = true := by
  rw [wrap_toInt, BitVec.msb_eq_toInt, decide_eq_true_iff]
theorem ofInt_msb {a : Int} (h : inI a) : (BitVec.ofInt 64 a).msb = decide (a < 0) := by
  unfold inI at h
  rw [BitVec.msb_eq_toInt, BitVec.toInt_ofInt]
  congr 1
  rw [Int.bmod_eq_of_le (by omega) (by omega)]
theorem xor_neg {a b : Int} (ha : inI a) (hb : inI b) : bits .xor .i64 a b < 0 ↔ ¬ (a < 0 ↔ b < 0) := by
  show IntKind.i64.wrap ((BitVec.ofInt 64 a ^^^ BitVec.ofInt 64 b).toNat : Int) < 0 ↔ _
  rw [wrap_neg_iff, BitVec.msb_xor, ofInt_msb ha, ofInt_msb hb]
  by_cases h1 : a < 0 <;> by_cases h2 : b < 0 <;> simp [h1, h2]
theorem wrap_in (x : Int) : inI (IntKind.i64.wrap x) := by unfold inI; rw [IntKind.wrap_i64]; omega
theorem xor_in (a b : Int) : inI (bits .xor .i64 a b) := wrap_in _
theorem and_neg {a b : Int} (ha : inI a) (hb : inI b) : bits .and .i64 a b < 0 ↔ (a < 0 ∧ b < 0) := by
  show IntKind.i64.wrap ((BitVec.ofInt 64 a &&& BitVec.ofInt 64 b).toNat : Int) < 0 ↔ _
  rw [wrap_neg_iff, BitVec.msb_and, ofInt_msb ha, ofInt_msb hb]
  by_cases h1 : a < 0 <;> by_cases h2 : b < 0 <;> simp [h1, h2]
theorem add_test {a b : Int} (ha : inI a) (hb : inI b) : bits .and .i64 (bits .xor .i64 a (IntKind.i64.wrap (a + b))) (bits .xor .i64 b (IntKind.i64.wrap (a + b))) < 0 ↔ fits (a + b) = false := by
  rw [and_neg (xor_in _ _) (xor_in _ _), xor_neg ha (wrap_in _), xor_neg hb (wrap_in _), IntKind.wrap_i64, ← Bool.not_eq_true, fits_iff]
  unfold inI at ha hb
  omega
theorem sub_test {a b : Int} (ha : inI a) (hb : inI b) : bits .and .i64 (bits .xor .i64 a b) (bits .xor .i64 a (IntKind.i64.wrap (a - b))) < 0 ↔ fits (a - b) = false := by
  rw [and_neg (xor_in _ _) (xor_in _ _), xor_neg ha (wrap_in _), xor_neg ha hb, IntKind.wrap_i64, ← Bool.not_eq_true, fits_iff]
  unfold inI at ha hb
  omega
theorem okV_yes {x : Int} (h : fits x = true) : okV x = x := by unfold okV; rw [h]; rfl
theorem okV_no {x : Int} (h : fits x = false) : okV x = 0 := by unfold okV; rw [h]; rfl
theorem okE_yes {x : Int} (h : fits x = true) : okE x = 0 := by unfold okE; rw [h]; rfl
theorem okE_no {x : Int} (h : fits x = false) : okE x = 5 := by unfold okE; rw [h]; rfl

theorem add_c (a b : Int) (ha : inI a) (hb : inI b) (w : World) : Calls Try.prog 57 #[.int .i64 a, .int .i64 b] w fun e w' => e = .returned (.tuple #[.int .i64 (okV (a + b)), .int .i64 (okE (a + b))]) ∧ w = w' := by
  have ht := add_test ha hb
  obtain ⟨c, hc⟩ : ∃ c, c = IntKind.i64.wrap (a + b) := ⟨_, rfl⟩
  have hcc := hc.symm
  rw [hcc] at ht
  cases h : fits (a + b)
  · have h1 := ht.2 h
    rw [okV_no h, okE_no h]
    clear ht h hc ha hb
    go_enter Try.func57, Try.ntmps57
    go_wp2
    go_ret2
    exact ⟨rfl, rfl⟩
  · have h1 : ¬ bits .and .i64 (bits .xor .i64 a c) (bits .xor .i64 b c) < 0 := fun h2 => by rw [ht.1 h2] at h; cases h
    have e : c = a + b := by rw [hc, IntKind.wrap_i64]; rw [fits_iff] at h; omega
    rw [okV_yes h, okE_yes h, ← e]
    clear ht h hc ha hb e
    go_enter Try.func57, Try.ntmps57
    go_wp2
    go_ret2
    exact ⟨rfl, rfl⟩
end Go.Proofs.Ytflgnlpippjhcaa

/- Safe: the walks of Clamp, Most, Int32, Halves, size, Mul64, Mul, Of. -/
set_option linter.unusedVariables false
namespace Go.Proofs.Ytflgnlpippjhcaa
open Go.RowKit

theorem most_c (a b : Int) (ha : inI a) (hb : inI b) (w : World) : Calls Try.prog 37 #[.int .i64 a, .int .i64 b] w fun e w' => e = .returned (.int .i64 (mostV (a + b))) ∧ w = w' := by
  have hc := add_c a b ha hb
  unfold inI at ha hb
  cases h : fits (a + b)
  · rw [okV_no h, okE_no h] at hc
    rw [← Bool.not_eq_true, fits_iff] at h
    have HC := Lib.hid hc
    by_cases h2 : 0 < a
    · have e : mostV (a + b) = 9223372036854775807 := by unfold mostV; rw [if_neg (by omega), if_pos (by omega)]
      rw [e]; clear e hc h ha hb
      go_enter Try.func37, Try.ntmps37
      go_wp2_with fail
      refine (HC.out _).mono ?_
      rintro e w' ⟨rfl, rfl⟩
      go_wp2; go_ret; exact ⟨rfl, rfl⟩
    · have e : mostV (a + b) = -9223372036854775808 := by unfold mostV; rw [if_pos (by omega)]
      rw [e]; clear e hc h ha hb
      go_enter Try.func37, Try.ntmps37
      go_wp2_with fail
      refine (HC.out _).mono ?_
      rintro e w' ⟨rfl, rfl⟩
      go_wp2; go_ret; exact ⟨rfl, rfl⟩
  · rw [okV_yes h, okE_yes h] at hc
    rw [fits_iff] at h
    have HC := Lib.hid hc
    have e : mostV (a + b) = a + b := by unfold mostV; rw [if_neg (by omega), if_neg (by omega)]
    rw [e]; clear e hc
    go_enter Try.func37, Try.ntmps37
    go_wp2_with fail
    refine (HC.out _).mono ?_
    rintro e w' ⟨rfl, rfl⟩
    go_wp2; go_ret; exact ⟨rfl, rfl⟩
/-! ### Int32 -/
theorem wrap_i32 (n : Int) (h0 : -2147483648 ≤ n) (h1 : n ≤ 2147483647) : IntKind.i32.wrap n = n := by simp [IntKind.wrap, IntKind.bits, IntKind.signed]; omega
theorem wrap_i32_in (n : Int) : -2147483648 ≤ IntKind.i32.wrap n ∧ IntKind.i32.wrap n ≤ 2147483647 := by simp [IntKind.wrap, IntKind.bits, IntKind.signed]; omega
/-! ### size -/
theorem size_c (n : Int) (hn : inI n) (w : World) : Calls Try.prog 69 #[.int .i64 n] w fun e w' => e = .returned (.int .u64 (n.natAbs : Nat)) ∧ w = w' := by
  unfold inI at hn
  by_cases h : n < 0
  · have e1 : IntKind.u64.wrap n = n + 18446744073709551616 := by rw [IntKind.wrap_u64]; omega
    have e2 : IntKind.u64.wrap (-(n + 18446744073709551616)) = (n.natAbs : Int) := by rw [IntKind.wrap_u64]; omega
    go_enter Try.func69, Try.ntmps69
    go_wp2
    go_ret
    exact ⟨ret_i (by first | rfl | (rw [e1, e2]) | (rw [IntKind.wrap_u64]; omega)), rfl⟩
  · have e1 : IntKind.u64.wrap n = n := by rw [IntKind.wrap_u64]; omega
    go_enter Try.func69, Try.ntmps69
    go_wp2
    go_ret
    exact ⟨ret_i (by omega), rfl⟩
end Go.Proofs.Ytflgnlpippjhcaa

/- Safe: the walks of Mul64, Mul, Of. -/
set_option linter.unusedVariables false
namespace Go.Proofs.Ytflgnlpippjhcaa
open Go.RowKit

theorem mul_parts (x y x0 x1 y0 y1 : Nat) (hx : x = x1 * 4294967296 + x0) (hy : y = y1 * 4294967296 + y0) : x * y = x1 * y1 * 18446744073709551616 + (x1 * y0 + x0 * y1) * 4294967296 + x0 * y0 := by
  subst hx hy; grind
theorem mul_le32 {a b : Nat} (ha : a < 4294967296) (hb : b < 4294967296) : a * b ≤ 18446744065119617025 := by
  have := Nat.mul_le_mul (show a ≤ 4294967295 by omega) (show b ≤ 4294967295 by omega)
  omega
theorem wrapN {a : Nat} (h : a < 18446744073709551616) : IntKind.u64.wrap (a : Int) = (a : Int) := by rw [IntKind.wrap_u64]; omega
theorem mask32 (x : Nat) (hx : x < 18446744073709551616) : bits .and .u64 (x : Int) 4294967295 = ((x % 4294967296 : Nat) : Int) := by
  have := u64_and_nat x 4294967295 hx (by decide)
  rw [Nat.and_two_pow_sub_one_eq_mod x 32] at this
  exact this
theorem mul64_c (x y : Nat) (hx : x < 18446744073709551616) (hy : y < 18446744073709551616) (w : World) :
    Calls Try.prog 34 #[.int .u64 (x : Nat), .int .u64 (y : Nat)] w fun e w' => e = .returned (.tuple #[.int .u64 ((x * y / 18446744073709551616 : Nat) : Int), .int .u64 ((x * y % 18446744073709551616 : Nat) : Int)]) ∧ w = w' := by
  have mx := mask32 x hx
  have my := mask32 y hy
  obtain ⟨x0, hx0⟩ : ∃ x0, x0 = x % 4294967296 := ⟨_, rfl⟩
  obtain ⟨x1, hx1⟩ : ∃ x1, x1 = x / 4294967296 := ⟨_, rfl⟩
  obtain ⟨y0, hy0⟩ : ∃ y0, y0 = y % 4294967296 := ⟨_, rfl⟩
  obtain ⟨y1, hy1⟩ : ∃ y1, y1 = y / 4294967296 := ⟨_, rfl⟩
  rw [← hx0] at mx
  rw [← hy0] at my
  have dx : (x : Int) / 4294967296 = (x1 : Int) := by omega
  have dy : (y : Int) / 4294967296 = (y1 : Int) := by omega
  have key := mul_parts x y x0 x1 y0 y1 (by omega) (by omega)
  have b1 := mul_le32 (a := x0) (b := y0) (by omega) (by omega)
  have b2 := mul_le32 (a := x1) (b := y0) (by omega) (by omega)
  have b3 := mul_le32 (a := x0) (b := y1) (by omega) (by omega)
  have b4 := mul_le32 (a := x1) (b := y1) (by omega) (by omega)
  have p1 : IntKind.u64.wrap ((x0 : Int) * (y0 : Int)) = ((x0 * y0 : Nat) : Int) := by rw [← Int.natCast_mul]; exact wrapN (by omega)
  have p2 : IntKind.u64.wrap ((x1 : Int) * (y0 : Int)) = ((x1 * y0 : Nat) : Int) := by rw [← Int.natCast_mul]; exact wrapN (by omega)
  have p3 : IntKind.u64.wrap ((x0 : Int) * (y1 : Int)) = ((x0 * y1 : Nat) : Int) := by rw [← Int.natCast_mul]; exact wrapN (by omega)
  have p4 : IntKind.u64.wrap ((x1 : Int) * (y1 : Int)) = ((x1 * y1 : Nat) : Int) := by rw [← Int.natCast_mul]; exact wrapN (by omega)
  have p5 : IntKind.u64.wrap ((x : Int) * (y : Int)) = ((x * y % 18446744073709551616 : Nat) : Int) := by rw [← Int.natCast_mul, IntKind.wrap_u64]; omega
  generalize x0 * y0 = a at *
  generalize x1 * y0 = b at *
  generalize x0 * y1 = c at *
  generalize x1 * y1 = d at *
  generalize x * y = P at *
  obtain ⟨a1, ha1⟩ : ∃ a1, a1 = a / 4294967296 := ⟨_, rfl⟩
  have q1 : (a : Int) / 4294967296 = (a1 : Int) := by omega
  obtain ⟨t, ht⟩ : ∃ t, t = b + a1 := ⟨_, rfl⟩
  have q2 : IntKind.u64.wrap ((b : Int) + (a1 : Int)) = (t : Int) := by rw [IntKind.wrap_u64]; omega
  obtain ⟨t1, ht1⟩ : ∃ t1, t1 = t / 4294967296 := ⟨_, rfl⟩
  have q3 : (t : Int) / 4294967296 = (t1 : Int) := by omega
  have q4 := mask32 t (by omega)
  obtain ⟨t0, ht0⟩ : ∃ t0, t0 = t % 4294967296 := ⟨_, rfl⟩
  rw [← ht0] at q4
  obtain ⟨u, hu⟩ : ∃ u, u = t0 + c := ⟨_, rfl⟩
  have q5 : IntKind.u64.wrap ((t0 : Int) + (c : Int)) = (u : Int) := by rw [IntKind.wrap_u64]; omega
  obtain ⟨u1, hu1⟩ : ∃ u1, u1 = u / 4294967296 := ⟨_, rfl⟩
  have q6 : (u : Int) / 4294967296 = (u1 : Int) := by omega
  obtain ⟨v, hv⟩ : ∃ v, v = d + t1 := ⟨_, rfl⟩
  have q7 : IntKind.u64.wrap ((d : Int) + (t1 : Int)) = (v : Int) := by rw [IntKind.wrap_u64]; omega
  have q8 : IntKind.u64.wrap ((v : Int) + (u1 : Int)) = ((P / 18446744073709551616 : Nat) : Int) := by rw [IntKind.wrap_u64]; omega
  generalize P / 18446744073709551616 = H at *
  generalize P % 18446744073709551616 = L at *
  clear hx0 hx1 hy0 hy1 key ha1 ht ht1 ht0 hu hu1 hv b1 b2 b3 b4
  go_enter Try.func34, Try.ntmps34
  go_wp2
  go_ret2
  exact ⟨rfl, rfl⟩

/-! ### Mul -/
theorem mul_yes {a b : Int} (h : ¬ (a < 0 ↔ b < 0)) : a * b ≤ 0 := by
  rcases Int.lt_or_le a 0 with h1 | h1
  · exact Int.mul_nonpos_of_nonpos_of_nonneg (by omega) (by omega)
  · exact Int.mul_nonpos_of_nonneg_of_nonpos h1 (by omega)
theorem mul_no {a b : Int} (h : (a < 0 ↔ b < 0)) : 0 ≤ a * b := by
  rcases Int.lt_or_le a 0 with h1 | h1
  · exact Int.mul_nonneg_of_nonpos_of_nonpos (by omega) (by omega)
  · exact Int.mul_nonneg h1 (by omega)
theorem natAbs_le {a : Int} (h : inI a) : a.natAbs < 18446744073709551616 := by unfold inI at h; omega
end Go.Proofs.Ytflgnlpippjhcaa

/- Safe: the walks of Of, Halves, Sum. -/
set_option linter.unusedVariables false
namespace Go.Proofs.Ytflgnlpippjhcaa
open Go.RowKit

theorem or_join (H L : Nat) (hH : H < 2147483648) (hL : L < 18446744073709551616) : bits .or .u64 (IntKind.u64.wrap ((H : Int) * 4294967296)) ((L : Int) / 4294967296) = ((H * 4294967296 + L / 4294967296 : Nat) : Int) := by
  have e1 : IntKind.u64.wrap ((H : Int) * 4294967296) = ((H * 4294967296 : Nat) : Int) := by rw [IntKind.wrap_u64]; omega
  have e2 : (L : Int) / 4294967296 = ((L / 4294967296 : Nat) : Int) := by omega
  rw [e1, e2, u64_or_nat _ _ (by omega) (by omega), nat_join 32 _ _ (by omega) (by omega)]
/-! ### Halves -/
theorem halves_small (n k : Int) (h : k < 1) (w : World) : Calls Try.prog 54 #[.int .i64 n, .int .i64 k] w fun e w' => e = .returned (.int .i64 n) ∧ w = w' := by
  go_enter Try.func54, Try.ntmps54
  go_wp2; go_ret; exact ⟨rfl, rfl⟩
theorem halves_big (n k : Int) (h : 62 < k) (w : World) : Calls Try.prog 54 #[.int .i64 n, .int .i64 k] w fun e w' => e = .returned (.int .i64 0) ∧ w = w' := by
  go_enter Try.func54, Try.ntmps54
  go_wp2; go_ret; exact ⟨rfl, rfl⟩
theorem halves_pos (n : Int) (k : Nat) (hk : 1 ≤ k) (hk2 : k ≤ 62) (hn : 0 ≤ n) (hn2 : n ≤ 9223372036854775807) (w : World) : Calls Try.prog 54 #[.int .i64 n, .int .i64 (k : Nat)] w fun e w' => e = .returned (.int .i64 (n.tdiv (2 ^ k))) ∧ w = w' := by
  go_enter Try.func54, Try.ntmps54
  go_wp2
  go_ret
  exact ⟨ret_i (by rw [Int.tdiv_eq_ediv_of_nonneg hn]), rfl⟩
theorem halves_neg (n : Int) (k : Nat) (hk : 1 ≤ k) (hk2 : k ≤ 62) (hn : n < 0) (hn2 : -9223372036854775808 ≤ n) (w : World) : Calls Try.prog 54 #[.int .i64 n, .int .i64 (k : Nat)] w fun e w' => e = .returned (.int .i64 (n.tdiv (2 ^ k))) ∧ w = w' := by
  have HS := Lib.hid (size_c n (by unfold inI; omega))
  have hp : (1 : Int) ≤ 2 ^ k := by
    have : (0 : Int) < 2 ^ k := Int.pow_pos (by omega)
    omega
  obtain ⟨q, hq⟩ : ∃ q : Int, q = (n.natAbs : Int) / 2 ^ k := ⟨_, rfl⟩
  have hq2 : (n.natAbs : Int) / 2 ^ k = q := hq.symm
  have hp2 : (2 : Int) ≤ 2 ^ k := by
    obtain ⟨j, rfl⟩ : ∃ j, k = j + 1 := ⟨k - 1, by omega⟩
    rw [Int.pow_succ]
    have : (0 : Int) < 2 ^ j := Int.pow_pos (by omega)
    omega
  have hq3 : 0 ≤ q := by rw [hq]; exact Int.ediv_nonneg (by omega) (by omega)
  have hq4 : q ≤ 4611686018427387904 := by
    have h1 := Int.ediv_mul_le (n.natAbs : Int) (b := 2 ^ k) (by omega)
    rw [← hq] at h1
    have h2 := Int.mul_le_mul_of_nonneg_left hp2 hq3
    omega
  have e : n.tdiv (2 ^ k) = -q := by
    rw [hq, ← Int.tdiv_eq_ediv_of_nonneg (by omega), ← Int.neg_tdiv]
    congr 1
    omega
  rw [e]
  clear e hq hp hp2
  go_enter Try.func54, Try.ntmps54
  go_wp2_with fail
  refine (HS.out _).mono ?_
  rintro e w' ⟨rfl, rfl⟩
  go_wp2
  go_ret
  exact ⟨ret_i (by first | rfl | omega), rfl⟩
theorem rhalves_big (n k : Int) (h : 62 < k) (w : World) : Calls Try.prog 55 #[.int .i64 n, .int .i64 k] w fun e w' => e = .returned (.int .i64 0) ∧ w = w' := by
  go_enter Try.func55, Try.ntmps55
  go_wp2; go_ret; exact ⟨rfl, rfl⟩
theorem tdiv_two_pow (n : Int) (j : Nat) : (n.tdiv (2 ^ j)).tdiv 2 = n.tdiv (2 ^ (j + 1)) := by
  rw [tdiv_tdiv_pos (Int.pow_nonneg (by omega)), Int.pow_succ]
theorem rhalves_in (n k : Int) (hn : inI n) (hk : k ≤ 62) (w : World) : Calls Try.prog 55 #[.int .i64 n, .int .i64 k] w fun e w' => e = .returned (.int .i64 (n.tdiv (2 ^ k.toNat))) ∧ w = w' := by
  have HN := Lib.hid hn
  clear hn
  go_enter Try.func55, Try.ntmps55
  go_wp2
  go_loop [0, 5] (fun m i => ∃ j : Nat, j ≤ k.toNat ∧ i = .int .i64 j ∧ m = .int .i64 (n.tdiv (2 ^ j))) (fun _ i => k.toNat - (intOf i).toNat)
  case atStart => exact ⟨0, by omega, rfl, by simp⟩
  case round =>
    obtain ⟨j, hj, rfl, rfl⟩ := hrel
    have HT := Lib.hid (tdiv_two_pow n j)
    have hb := tdiv_bounds n (2 ^ j) (by have : (0 : Int) < 2 ^ j := Int.pow_pos (by omega); omega)
    have hin := HN.out
    unfold inI at hin
    obtain ⟨m, hm⟩ : ∃ m, m = n.tdiv (2 ^ j) := ⟨_, rfl⟩
    have hmb : -9223372036854775808 ≤ m ∧ m ≤ 9223372036854775807 := by rw [← hm] at hb; omega
    rw [← hm] at HT ⊢
    have hm2 := hm.symm
    have HM := Lib.hid hm
    clear hb hin hm hm2
    have hw : IntKind.i64.wrap (m.tdiv 2) = m.tdiv 2 := by have := tdiv_bounds m 2 (by omega); rw [IntKind.wrap_i64]; omega
    by_cases hlt : (j : Int) < k
    · go_wp2
      go_round
      case rel => exact ⟨j + 1, by omega, by go_num, by rw [HT.out]⟩
      case measure => simp [intOf]; omega
    · obtain rfl : k.toNat = j := by omega
      go_wp2
      go_ret
      exact ⟨by first | rfl | exact ret_i HM.out, rfl⟩
theorem halves_c (n k : Int) (hn : inI n) (w : World) : Calls Try.prog 54 #[.int .i64 n, .int .i64 k] w fun e w' => e = .returned (.int .i64 (halvesV n k)) ∧ w = w' := by
  unfold inI at hn
  unfold halvesV
  by_cases h1 : k < 1
  · rw [if_pos h1]; exact halves_small n k h1 w
  · by_cases h2 : 62 < k
    · rw [if_neg h1, if_pos h2]; exact halves_big n k h2 w
    · rw [if_neg h1, if_neg h2]
      obtain ⟨j, rfl⟩ := Int.eq_ofNat_of_zero_le (show 0 ≤ k by omega)
      rw [Int.toNat_natCast]
      by_cases h3 : n < 0
      · exact halves_neg n j (by omega) (by omega) h3 hn.1 w
      · exact halves_pos n j (by omega) (by omega) (by omega) hn.2 w
theorem rhalves_c (n k : Int) (hn : inI n) (w : World) : Calls Try.prog 55 #[.int .i64 n, .int .i64 k] w fun e w' => e = .returned (.int .i64 (halvesV n k)) ∧ w = w' := by
  unfold halvesV
  by_cases h2 : 62 < k
  · rw [if_neg (by omega), if_pos h2]; exact rhalves_big n k h2 w
  · by_cases h1 : k < 1
    · have := rhalves_in n k hn (by omega) w
      rw [show k.toNat = 0 by omega] at this
      rw [if_pos h1]
      simpa using this
    · rw [if_neg h1, if_neg h2]; exact rhalves_in n k hn (by omega) w

/-! ### Sum -/
theorem sumF_snoc : ∀ (l : List Int) (n x : Int), sumF n (l ++ [x]) = (sumF n l).bind fun m => if fits (m + x) then some (m + x) else none
  | [], n, x => by simp [sumF]
  | y :: l, n, x => by
    simp only [List.cons_append, sumF]
    split
    · exact sumF_snoc l _ x
    · rfl
theorem sumF_none_append : ∀ (l k : List Int) (n : Int), sumF n l = none → sumF n (l ++ k) = none
  | [], k, n, h => by simp [sumF] at h
  | y :: l, k, n, h => by
    simp only [List.cons_append, sumF] at h ⊢
    split
    · rename_i hf; rw [if_pos hf] at h; exact sumF_none_append l k _ h
    · rfl
theorem sumF_in : ∀ (l : List Int) (n m : Int), inI n → sumF n l = some m → inI m
  | [], n, m, hn, h => by simp [sumF] at h; subst h; exact hn
  | y :: l, n, m, hn, h => by
    simp only [sumF] at h
    split at h
    · rename_i hf; exact sumF_in l _ m (by rw [fits_iff] at hf; exact hf) h
    · cases h
end Go.Proofs.Ytflgnlpippjhcaa

/- Safe: Len64, LeadingZeros64. -/
set_option linter.unusedVariables false
namespace Go.Proofs.Ytflgnlpippjhcaa
open Go.RowKit

theorem tab8 (y : Int) (h : y.toNat < Lib.len8tab.size) (h0 : 0 ≤ y) (h1 : y ≤ 255) : ((Lib.len8tab[y.toNat]'h).toNat : Int) = (Lib.bitLen y.toNat : Nat) := by
  rw [← Lib.len8_of y h0 h1]
  unfold Lib.len8
  rw [getElem?_pos Lib.len8tab y.toNat h]
  rfl
/-- One way through Len64: the table's word on what is left, and what was shifted away. -/
theorem len_way (x y : Int) (k : Nat) (hk : k ≤ 56) (h0 : 0 ≤ y) (h1 : y ≤ 255) (hb : Lib.bitLen x.toNat = k + Lib.bitLen y.toNat) (h : y.toNat < Lib.len8tab.size) :
    RowKit.wrap64 ((k : Int) + RowKit.wrap64 ((Lib.len8tab[y.toNat]'h).toNat : Int)) = (Lib.bitLen x.toNat : Nat) := by
  rw [tab8 y h h0 h1, hb]
  have := Lib.bitLen_le8' y h0 h1
  unfold RowKit.wrap64
  omega
theorem len_way0 (y : Int) (h0 : 0 ≤ y) (h1 : y ≤ 255) (h : y.toNat < Lib.len8tab.size) : RowKit.wrap64 (RowKit.wrap64 ((Lib.len8tab[y.toNat]'h).toNat : Int)) = (Lib.bitLen y.toNat : Nat) := by
  rw [tab8 y h h0 h1]
  have := Lib.bitLen_le8' y h0 h1
  unfold RowKit.wrap64
  omega
set_option maxRecDepth 1000000 in
set_option maxHeartbeats 8000000 in
theorem len64_c (x : Int) (w : World) (h0 : 0 ≤ x) (h1 : x ≤ 18446744073709551615) : Calls Try.prog 70 #[.int .u64 x] w fun e w' => e = .returned (.int .i64 (Lib.bitLen x.toNat : Nat)) ∧ w = w' := by
  go_enter Try.func70, Try.ntmps70
  go_wp2
  all_goals first
    | go_ret
    | (exfalso
       have hs : (Lib.len8tab.size : Int) = 256 := by rw [Lib.len8tab_size]; rfl
       omega)
  all_goals first
    | exact ⟨ret_i (len_way x (x / 4294967296 / 65536 / 256) 56 (by omega) (by omega) (by omega) (by rw [show (x / 4294967296 / 65536 / 256).toNat = x.toNat / 72057594037927936 by omega]; exact Lib.bitLen_shift56 x.toNat (by omega) (by omega)) _), rfl⟩
    | exact ⟨ret_i (len_way x (x / 4294967296 / 65536) 48 (by omega) (by omega) (by omega) (by rw [show (x / 4294967296 / 65536).toNat = x.toNat / 281474976710656 by omega]; exact Lib.bitLen_shift48 x.toNat (by omega) (by omega)) _), rfl⟩
    | exact ⟨ret_i (len_way x (x / 4294967296 / 256) 40 (by omega) (by omega) (by omega) (by rw [show (x / 4294967296 / 256).toNat = x.toNat / 1099511627776 by omega]; exact Lib.bitLen_shift40 x.toNat (by omega) (by omega)) _), rfl⟩
    | exact ⟨ret_i (len_way x (x / 4294967296) 32 (by omega) (by omega) (by omega) (by rw [show (x / 4294967296).toNat = x.toNat / 4294967296 by omega]; exact Lib.bitLen_shift32 x.toNat (by omega) (by omega)) _), rfl⟩
    | exact ⟨ret_i (len_way x (x / 65536 / 256) 24 (by omega) (by omega) (by omega) (by rw [show (x / 65536 / 256).toNat = x.toNat / 16777216 by omega]; exact Lib.bitLen_shift24 x.toNat (by omega) (by omega)) _), rfl⟩
    | exact ⟨ret_i (len_way x (x / 65536) 16 (by omega) (by omega) (by omega) (by rw [show (x / 65536).toNat = x.toNat / 65536 by omega]; exact Lib.bitLen_shift16 x.toNat (by omega) (by omega)) _), rfl⟩
    | exact ⟨ret_i (len_way x (x / 256) 8 (by omega) (by omega) (by omega) (by rw [show (x / 256).toNat = x.toNat / 256 by omega]; exact Lib.bitLen_shift8 x.toNat (by omega) (by omega)) _), rfl⟩
    | (have hlt : x.toNat < Lib.len8tab.size := by rw [Lib.len8tab_size]; omega
       have := len_way0 x (by omega) (by omega) hlt
       exact ⟨ret_i this, rfl⟩)
theorem lz64_c (x : Int) (w : World) (h0 : 0 ≤ x) (h1 : x ≤ 18446744073709551615) : Calls Try.prog 56 #[.int .u64 x] w fun e w' => e = .returned (.int .i64 (64 - (Lib.bitLen x.toNat : Nat))) ∧ w = w' := by
  have hb : Lib.bitLen x.toNat ≤ 64 := Lib.bitLen_le x.toNat 64 (by omega) (by omega)
  have HL := Lib.hid (fun w => len64_c x w h0 h1)
  clear h0 h1
  generalize Lib.bitLen x.toNat = b at *
  have hw : IntKind.i64.wrap (64 - (b : Int)) = 64 - (b : Int) := by rw [IntKind.wrap_i64]; omega
  go_enter Try.func56, Try.ntmps56
  go_wp2_with fail
  refine (HL.out _).mono ?_
  rintro e w' ⟨rfl, rfl⟩
  go_wp2
  go_ret
  exact ⟨rfl, rfl⟩
end Go.Proofs.Ytflgnlpippjhcaa

/- Safe: Div64. -/
set_option linter.unusedVariables false
namespace Go.Proofs.Ytflgnlpippjhcaa
open Go.RowKit

/-! ### one digit of a long division -/
theorem len_lt : ∀ (k x : Nat), k ≤ 64 → x < 2 ^ k → x < 2 ^ Lib.bitLen x
  | 0, x, _, h => by
    have : x = 0 := by simpa using h
    subst this
    exact Nat.lt_of_lt_of_le (by decide) (Nat.one_le_two_pow)
  | k + 1, x, hk, h => by
    rcases Nat.eq_zero_or_pos x with h0 | h0
    · subst h0; exact Nat.lt_of_lt_of_le (by decide) (Nat.one_le_two_pow)
    · have hx : x < 2 ^ 64 := Nat.lt_of_lt_of_le h (Nat.pow_le_pow_right (by decide) hk)
      rw [Lib.bitLen_half x (by omega) hx, Nat.add_comm, Nat.pow_succ]
      have := len_lt k (x / 2) (by omega) (by rw [Nat.pow_succ] at h; omega)
      omega
theorem len_ge (x : Nat) (h0 : 0 < x) (hx : x < 2 ^ 64) : 2 ^ (Lib.bitLen x - 1) ≤ x := by
  rcases Nat.lt_or_ge x (2 ^ (Lib.bitLen x - 1)) with h | h
  · have hl := Lib.bitLen_le x 64 (by omega) hx
    have h2 := Lib.bitLen_le x (Lib.bitLen x - 1) (by omega) h
    have h3 : Lib.bitLen x = 0 := by omega
    have h4 := len_lt 64 x (by omega) hx
    rw [h3] at h4
    omega
  · exact h
/-- The state of a digit's guess. -/
structure Dig (D y1 y0 U u q r : Nat) : Prop where
  hD : D = y1 * 4294967296 + y0
  hy0 : y0 < 4294967296
  hy1 : y1 < 4294967296
  hU : U < D
  hu : u < 4294967296
  hq : U = q * y1 + r
  ge : (U * 4294967296 + u) / D ≤ q
theorem dig_start {D y1 y0 U u : Nat} (hD : D = y1 * 4294967296 + y0) (hy0 : y0 < 4294967296) (hy1 : y1 < 4294967296) (h1 : 2147483648 ≤ y1) (hU : U < D) (hu : u < 4294967296) : Dig D y1 y0 U u (U / y1) (U % y1) := by
  refine ⟨hD, hy0, hy1, hU, hu, ?_, ?_⟩
  · rw [Nat.mul_comm]; exact (Nat.div_add_mod U y1).symm
  · have h2 : (U * 4294967296 + u) / D ≤ (U * 4294967296 + u) / (y1 * 4294967296) := Nat.div_le_div_left (by omega) (by omega)
    have h3 : (U * 4294967296 + u) / (y1 * 4294967296) = U / y1 := by
      rw [Nat.mul_comm y1, ← Nat.div_div_eq_div_mul]
      congr 1
      omega
    omega
theorem dig_small {D y1 y0 U u q r : Nat} (h : Dig D y1 y0 U u q r) : (U * 4294967296 + u) / D < 4294967296 := by
  rw [Nat.div_lt_iff_lt_mul (by have := h.hU; omega)]
  have := h.hU; have := h.hu
  omega
theorem dig_expand {D y1 y0 U u q r : Nat} (h : Dig D y1 y0 U u q r) : q * D + (r * 4294967296 + u) = (U * 4294967296 + u) + q * y0 := by
  rw [h.hD, h.hq]; grind
theorem lt_help {a b N R : Nat} (he : a + R = N + b) (h1 : R < b) : N < a := by omega
/-- Too great: one less. -/
theorem dig_down {D y1 y0 U u q r : Nat} (h : Dig D y1 y0 U u q r) (ht : 4294967296 ≤ q ∨ r * 4294967296 + u < q * y0) : 0 < q ∧ Dig D y1 y0 U u (q - 1) (r + y1) := by
  have hs := dig_small h
  have he := dig_expand h
  have hD0 : 0 < D := by have := h.hU; omega
  have hlt : (U * 4294967296 + u) / D < q := by
    rcases ht with h1 | h1
    · exact Nat.lt_of_lt_of_le hs h1
    · exact (Nat.div_lt_iff_lt_mul hD0).2 (lt_help he h1)
  have hq0 : 0 < q := Nat.lt_of_le_of_lt (Nat.zero_le _) hlt
  refine ⟨hq0, h.hD, h.hy0, h.hy1, h.hU, h.hu, ?_, Nat.le_sub_one_of_lt hlt⟩
  obtain ⟨p, rfl⟩ : ∃ p, q = p + 1 := ⟨q - 1, by omega⟩
  rw [h.hq, Nat.add_sub_cancel, Nat.add_mul]
  omega
/-- Right. -/
theorem dig_done {D y1 y0 U u q r : Nat} (h : Dig D y1 y0 U u q r) (ht : q * y0 ≤ r * 4294967296 + u) : q = (U * 4294967296 + u) / D := by
  have he := dig_expand h
  have hD0 : 0 < D := by have := h.hU; omega
  have : q ≤ (U * 4294967296 + u) / D := by rw [Nat.le_div_iff_mul_le hD0]; omega
  have := h.ge
  omega
theorem dig_break {D y1 y0 U u q r : Nat} (h : Dig D y1 y0 U u q r) (hr : 4294967296 ≤ r) (hq : q ≤ 4294967296) : q = (U * 4294967296 + u) / D := by
  refine dig_done h ?_
  have h1 : q * y0 ≤ 4294967296 * y0 := Nat.mul_le_mul_right _ hq
  have := h.hy0
  omega
theorem dig_first {D y1 y0 U u : Nat} (h1 : 2147483648 ≤ y1) (h : Dig D y1 y0 U u (U / y1) (U % y1)) : U / y1 ≤ 4294967297 := by
  have := h.hU; have := h.hD; have := h.hy0
  have h2 : U / y1 < 4294967298 := by rw [Nat.div_lt_iff_lt_mul (by omega)]; omega
  omega

set_option maxRecDepth 100000 in
set_option maxHeartbeats 4000000 in
theorem div_zero (lo y : Nat) (hy : 0 < y) (hlo : lo < 18446744073709551616) (hy2 : y < 18446744073709551616) (w : World) : Calls Try.prog 36 #[.int .u64 0, .int .u64 (lo : Nat), .int .u64 (y : Nat)] w fun e w' => (∃ r : Int, e = .returned (.tuple #[.int .u64 ((lo / y : Nat) : Int), .int .u64 r])) ∧ ∃ m, w' = w.drewN m := by
  have h1 : ((y : Int) == 0) = false := by simp; omega
  have h2 : decide ((y : Int) ≤ 0) = false := by simp; omega
  have h3 : ((y : Int) != 0) = true := by simp; omega
  have h4 : ¬ (y : Int) = 0 := by omega
  have h5 : (lo : Int).tdiv (y : Int) = ((lo / y : Nat) : Int) := by rw [Int.tdiv_eq_ediv_of_nonneg (by omega)]; exact (Int.natCast_ediv lo y).symm
  have h5' : (lo : Int) / (y : Int) = ((lo / y : Nat) : Int) := (Int.natCast_ediv lo y).symm
  have h6 : IntKind.u64.wrap ((lo / y : Nat) : Int) = ((lo / y : Nat) : Int) := wrapN (Nat.lt_of_le_of_lt (Nat.div_le_self _ _) hlo)
  generalize lo / y = q at *
  clear hy hlo hy2
  go_enter Try.func36, Try.ntmps36
  go_wp2_with fail
  go_quiet (fail)
  go_wp2
  go_ret2
  exact ⟨⟨_, rfl⟩, _, rfl⟩

theorem shift_facts (y : Nat) (h0 : 0 < y) (hy : y < 18446744073709551616) : ∃ s : Nat, s ≤ 63 ∧ ((64 : Int) - (Lib.bitLen ((y : Int).toNat) : Nat) = (s : Int)) ∧ 9223372036854775808 ≤ y * 2 ^ s ∧ y * 2 ^ s < 18446744073709551616 := by
  have hl := Lib.bitLen_le y 64 (by omega) hy
  have h1 := len_lt 64 y (by omega) hy
  have h2 := len_ge y h0 hy
  have h3 : Lib.bitLen y ≠ 0 := fun h => by rw [h] at h1; omega
  obtain ⟨b, hb⟩ : ∃ b, Lib.bitLen y = b + 1 := ⟨Lib.bitLen y - 1, by omega⟩
  refine ⟨64 - Lib.bitLen y, by omega, by rw [Int.toNat_natCast]; omega, ?_, ?_⟩
  · rw [hb, Nat.add_sub_cancel] at h2
    have := Nat.mul_le_mul_right (2 ^ (64 - Lib.bitLen y)) h2
    rw [← Nat.pow_add, hb, show b + (64 - (b + 1)) = 63 by omega] at this
    rw [hb]
    exact this
  · have := Nat.mul_lt_mul_of_pos_right h1 (Nat.two_pow_pos (64 - Lib.bitLen y))
    rw [← Nat.pow_add, show Lib.bitLen y + (64 - Lib.bitLen y) = 64 by omega] at this
    exact this
theorem digits_plain (Y U T R1 Q1 : Nat) (hU : U < Y) (hQ : Q1 = (U * 4294967296 + T / 4294967296) / Y) (hR : R1 = (U * 4294967296 + T / 4294967296) % Y) : (U * 18446744073709551616 + T) / Y = Q1 * 4294967296 + (R1 * 4294967296 + T % 4294967296) / Y := by
  have h1 := Nat.div_add_mod (U * 4294967296 + T / 4294967296) Y
  rw [← hQ, ← hR] at h1
  have h2 : U * 18446744073709551616 + T = (R1 * 4294967296 + T % 4294967296) + Y * (Q1 * 4294967296) := by
    have h3 := Nat.div_add_mod T 4294967296
    have h4 : Y * (Q1 * 4294967296) = Y * Q1 * 4294967296 := by grind
    rw [h4]
    generalize Y * Q1 = a at *
    omega
  rw [h2, Nat.add_mul_div_left _ _ (by omega), Nat.add_comm]
theorem shift_div (hi lo y s U T : Nat) (hy : 0 < y) (hs : s ≤ 63) (hU : U = hi * 2 ^ s + lo / 2 ^ (64 - s)) (hT : T = lo * 2 ^ s % 18446744073709551616) : (U * 18446744073709551616 + T) / (y * 2 ^ s) = (hi * 18446744073709551616 + lo) / y := by
  have e64 : 2 ^ (64 - s) * 2 ^ s = 18446744073709551616 := by rw [← Nat.pow_add, show 64 - s + s = 64 by omega]
  have h1 : lo * 2 ^ s / 18446744073709551616 = lo / 2 ^ (64 - s) := by rw [← e64, Nat.mul_div_mul_right _ _ (Nat.two_pow_pos s)]
  have h2 := Nat.div_add_mod (lo * 2 ^ s) 18446744073709551616
  rw [h1, ← hT] at h2
  have h3 : U * 18446744073709551616 + T = (hi * 18446744073709551616 + lo) * 2 ^ s := by
    rw [hU]
    have h4 : (hi * 2 ^ s + lo / 2 ^ (64 - s)) * 18446744073709551616 = hi * 2 ^ s * 18446744073709551616 + 18446744073709551616 * (lo / 2 ^ (64 - s)) := by grind
    have h5 : (hi * 18446744073709551616 + lo) * 2 ^ s = hi * 2 ^ s * 18446744073709551616 + lo * 2 ^ s := by grind
    rw [h4, h5, ← h2]
    generalize 18446744073709551616 * (lo / 2 ^ (64 - s)) = a
    generalize hi * 2 ^ s * 18446744073709551616 = b
    omega
  rw [h3, Nat.mul_div_mul_right _ _ (Nat.two_pow_pos s)]
theorem u_facts (hi lo y s : Nat) (hs : s ≤ 63) (hy : hi < y) (hlo : lo < 18446744073709551616) (hY2 : y * 2 ^ s < 18446744073709551616) : hi * 2 ^ s < 18446744073709551616 ∧ hi * 2 ^ s + lo / 2 ^ (64 - s) < y * 2 ^ s ∧ bits .or .u64 (IntKind.u64.wrap ((hi : Int) * 2 ^ s)) ((lo : Int) / 2 ^ (64 - s)) = ((hi * 2 ^ s + lo / 2 ^ (64 - s) : Nat) : Int) := by
  have e64 : 2 ^ s * 2 ^ (64 - s) = 18446744073709551616 := by rw [← Nat.pow_add, show s + (64 - s) = 64 by omega]
  have h1 : lo / 2 ^ (64 - s) < 2 ^ s := by rw [Nat.div_lt_iff_lt_mul (Nat.two_pow_pos _), e64]; exact hlo
  have h2 : (hi + 1) * 2 ^ s ≤ y * 2 ^ s := Nat.mul_le_mul_right _ hy
  rw [Nat.add_mul] at h2
  have h3 : hi * 2 ^ s < 18446744073709551616 := by omega
  refine ⟨h3, by omega, ?_⟩
  have w1 : IntKind.u64.wrap ((hi : Int) * 2 ^ s) = ((hi * 2 ^ s : Nat) : Int) := by
    rw [show (hi : Int) * 2 ^ s = ((hi * 2 ^ s : Nat) : Int) by simp]
    exact wrapN h3
  have w2 : (lo : Int) / 2 ^ (64 - s) = ((lo / 2 ^ (64 - s) : Nat) : Int) := by simp
  rw [w1, w2, u64_or_nat _ _ h3 (Nat.lt_of_le_of_lt (Nat.div_le_self _ _) hlo), nat_join s _ _ (by simp) h1]
/-- One round's test and what it leaves. -/
theorem dig_next {D y1 y0 U u q r : Nat} (h : Dig D y1 y0 U u q r) (hq : q ≤ 4294967297) (hr : r < 4294967296) (ht : 4294967296 ≤ q ∨ r * 4294967296 + u < q * y0) : 0 < q ∧ (4294967296 ≤ r + y1 → q - 1 = (U * 4294967296 + u) / D) ∧ Dig D y1 y0 U u (q - 1) (r + y1) := by
  obtain ⟨h1, h2⟩ := dig_down h ht
  exact ⟨h1, fun hb => dig_break h2 hb (by omega), h2⟩
set_option maxRecDepth 100000 in
set_option maxHeartbeats 16000000 in
theorem div_big (hi lo y : Nat) (hh : 0 < hi) (hy : hi < y) (hlo : lo < 18446744073709551616) (hy2 : y < 18446744073709551616) (w : World) : Calls Try.prog 36 #[.int .u64 (hi : Nat), .int .u64 (lo : Nat), .int .u64 (y : Nat)] w fun e w' => (∃ r : Int, e = .returned (.tuple #[.int .u64 (((hi * 18446744073709551616 + lo) / y : Nat) : Int), .int .u64 r])) ∧ w = w' := by
  obtain ⟨s, hs, hsb, hY1, hY2⟩ := shift_facts y (by omega) hy2
  have hlz := fun w => lz64_c (y : Int) w (by omega) (by omega)
  rw [hsb] at hlz
  have HLZ := Lib.hid hlz
  have d1 : decide ((y : Int) ≤ (hi : Int)) = false := decide_eq_false (by omega)
  have d2 : ((hi : Int) == 0) = false := by simp; omega
  have d3 : ((y : Int) == 0) = false := by simp; omega
  have ws : IntKind.u64.wrap (s : Int) = (s : Int) := by rw [IntKind.wrap_u64]; omega
  have hs' : (s : Int) ≤ 63 := by omega
  obtain ⟨hUa, hUb, hUc⟩ := u_facts hi lo y s hs hy hlo hY2
  have hfin := shift_div hi lo y s _ _ (by omega) hs rfl rfl
  have hqlt : (hi * 18446744073709551616 + lo) / y < 18446744073709551616 := by rw [Nat.div_lt_iff_lt_mul (by omega)]; have : (hi + 1) * 18446744073709551616 ≤ y * 18446744073709551616 := Nat.mul_le_mul_right _ hy; omega
  obtain ⟨Q, hQ⟩ : ∃ Q, Q = (hi * 18446744073709551616 + lo) / y := ⟨_, rfl⟩
  rw [← hQ] at hfin hqlt ⊢
  have w1 : IntKind.u64.wrap ((y : Int) * 2 ^ s) = ((y * 2 ^ s : Nat) : Int) := by
    rw [show (y : Int) * 2 ^ s = ((y * 2 ^ s : Nat) : Int) by simp]
    exact wrapN hY2
  have w2 : IntKind.u64.wrap ((lo : Int) * 2 ^ s) = ((lo * 2 ^ s % 18446744073709551616 : Nat) : Int) := by
    rw [show (lo : Int) * 2 ^ s = ((lo * 2 ^ s : Nat) : Int) by simp, IntKind.wrap_u64]; omega
  clear hlz hsb hs hh hlo hy2 hQ
  obtain ⟨Y, hYe⟩ : ∃ Y, Y = y * 2 ^ s := ⟨_, rfl⟩
  rw [← hYe] at hY1 hY2 hUb hfin w1
  obtain ⟨U, hUe⟩ : ∃ U, U = hi * 2 ^ s + lo / 2 ^ (64 - s) := ⟨_, rfl⟩
  rw [← hUe] at hUb hfin hUc
  obtain ⟨T, hTe⟩ : ∃ T, T = lo * 2 ^ s % 18446744073709551616 := ⟨_, rfl⟩
  rw [← hTe] at hfin w2
  have hT : T < 18446744073709551616 := by rw [hTe]; exact Nat.mod_lt _ (by decide)
  clear hUe hTe hYe hUa
  obtain ⟨y1, hy1⟩ : ∃ y1, y1 = Y / 4294967296 := ⟨_, rfl⟩
  obtain ⟨y0, hy0⟩ : ∃ y0, y0 = Y % 4294967296 := ⟨_, rfl⟩
  obtain ⟨u1, hu1⟩ : ∃ u1, u1 = T / 4294967296 := ⟨_, rfl⟩
  obtain ⟨u0, hu0⟩ : ∃ u0, u0 = T % 4294967296 := ⟨_, rfl⟩
  have m1 := mask32 Y hY2
  have m2 := mask32 T hT
  rw [← hy0] at m1
  rw [← hu0] at m2
  have v1 : (Y : Int) / 4294967296 = (y1 : Int) := by omega
  have v2 : (T : Int) / 4294967296 = (u1 : Int) := by omega
  have z1 : ((y1 : Int) == 0) = false := by simp; omega
  have z2 : ¬ (y1 : Int) = 0 := by omega
  have hyb : 2147483648 ≤ y1 := by omega
  have D1 := dig_start (D := Y) (y1 := y1) (y0 := y0) (U := U) (u := u1) (by omega) (by omega) (by omega) hyb hUb (by omega)
  have D1f := dig_first hyb D1
  have D1r : U % y1 < 4294967296 := by have := Nat.mod_lt U (show 0 < y1 by omega); omega
  have a1 : (U : Int).tdiv (y1 : Int) = ((U / y1 : Nat) : Int) := by rw [Int.tdiv_eq_ediv_of_nonneg (by omega)]; exact (Int.natCast_ediv U y1).symm
  have a1' : (U : Int) / (y1 : Int) = ((U / y1 : Nat) : Int) := (Int.natCast_ediv U y1).symm
  have a2 : IntKind.u64.wrap ((U / y1 : Nat) : Int) = ((U / y1 : Nat) : Int) := wrapN (by omega)
  have a3 : IntKind.u64.wrap (((U / y1 : Nat) : Int) * (y1 : Int)) = ((U / y1 * y1 : Nat) : Int) := by rw [← Int.natCast_mul]; exact wrapN (by have := Nat.div_mul_le_self U y1; omega)
  have a4 : IntKind.u64.wrap ((U : Int) - ((U / y1 * y1 : Nat) : Int)) = ((U % y1 : Nat) : Int) := by
    have := Nat.div_add_mod U y1
    rw [Nat.mul_comm] at this
    have h2 := Nat.mod_lt U (show 0 < y1 by omega)
    rw [IntKind.wrap_u64]; omega
  have hDP := digits_plain Y U T ((U * 4294967296 + T / 4294967296) % Y) ((U * 4294967296 + T / 4294967296) / Y) hUb rfl rfl
  rw [← hu1, ← hu0, hfin] at hDP
  obtain ⟨Q1, hQ1⟩ : ∃ Q1, Q1 = (U * 4294967296 + u1) / Y := ⟨_, rfl⟩
  obtain ⟨R1, hR1⟩ : ∃ R1, R1 = (U * 4294967296 + u1) % Y := ⟨_, rfl⟩
  rw [← hQ1, ← hR1] at hDP
  have hR1lt : R1 < Y := by rw [hR1]; exact Nat.mod_lt _ (by omega)
  have hQ1lt : Q1 < 4294967296 := by rw [hQ1]; exact dig_small D1
  have hQR : Q1 * Y + R1 = U * 4294967296 + u1 := by have := Nat.div_add_mod (U * 4294967296 + u1) Y; rw [← hQ1, ← hR1, Nat.mul_comm] at this; exact this
  have D2 := dig_start (D := Y) (y1 := y1) (y0 := y0) (U := R1) (u := u0) (by omega) (by omega) (by omega) hyb hR1lt (by omega)
  have D2f := dig_first hyb D2
  have D2r : R1 % y1 < 4294967296 := by have := Nat.mod_lt R1 (show 0 < y1 by omega); omega
  have b1 : (R1 : Int).tdiv (y1 : Int) = ((R1 / y1 : Nat) : Int) := by rw [Int.tdiv_eq_ediv_of_nonneg (by omega)]; exact (Int.natCast_ediv R1 y1).symm
  have b1' : (R1 : Int) / (y1 : Int) = ((R1 / y1 : Nat) : Int) := (Int.natCast_ediv R1 y1).symm
  have b2 : IntKind.u64.wrap ((R1 / y1 : Nat) : Int) = ((R1 / y1 : Nat) : Int) := wrapN (by omega)
  have b3 : IntKind.u64.wrap (((R1 / y1 : Nat) : Int) * (y1 : Int)) = ((R1 / y1 * y1 : Nat) : Int) := by rw [← Int.natCast_mul]; exact wrapN (by have := Nat.div_mul_le_self R1 y1; omega)
  have b4 : IntKind.u64.wrap ((R1 : Int) - ((R1 / y1 * y1 : Nat) : Int)) = ((R1 % y1 : Nat) : Int) := by
    have := Nat.div_add_mod R1 y1
    rw [Nat.mul_comm] at this
    have h2 := Nat.mod_lt R1 (show 0 < y1 by omega)
    rw [IntKind.wrap_u64]; omega
  obtain ⟨qy, hqy⟩ : ∃ qy, qy = Q1 * Y := ⟨_, rfl⟩
  obtain ⟨Un, hUn⟩ : ∃ Un, Un = U * 4294967296 % 18446744073709551616 := ⟨_, rfl⟩
  obtain ⟨Um, hUm⟩ : ∃ Um, Um = (U * 4294967296 + u1) % 18446744073709551616 := ⟨_, rfl⟩
  obtain ⟨qym, hqym⟩ : ∃ qym, qym = qy % 18446744073709551616 := ⟨_, rfl⟩
  obtain ⟨Q1B, hQ1B⟩ : ∃ Q1B, Q1B = Q1 * 4294967296 := ⟨_, rfl⟩
  have t1 : IntKind.u64.wrap ((U : Int) * 4294967296) = (Un : Int) := by rw [IntKind.wrap_u64]; omega
  have t2 : IntKind.u64.wrap ((Un : Int) + (u1 : Int)) = (Um : Int) := by rw [IntKind.wrap_u64]; omega
  have t3 : IntKind.u64.wrap ((Q1 : Int) * (Y : Int)) = (qym : Int) := by rw [← Int.natCast_mul, ← hqy, IntKind.wrap_u64]; omega
  have t4 : IntKind.u64.wrap ((Um : Int) - (qym : Int)) = (R1 : Int) := by rw [← hqy] at hQR; rw [IntKind.wrap_u64]; omega
  obtain ⟨Q0, hQ0⟩ : ∃ Q0, Q0 = (R1 * 4294967296 + u0) / Y := ⟨_, rfl⟩
  rw [← hQ0] at hDP
  have t5 : IntKind.u64.wrap ((Q1 : Int) * 4294967296) = (Q1B : Int) := by rw [IntKind.wrap_u64]; omega
  have t6 : IntKind.u64.wrap ((Q1B : Int) + (Q0 : Int)) = (Q : Int) := by rw [IntKind.wrap_u64]; omega
  have hu1b : u1 < 4294967296 := by omega
  have hu0b : u0 < 4294967296 := by omega
  have hy0b : y0 < 4294967296 := by omega
  have hy1b : y1 < 4294967296 := by omega
  generalize U / y1 = q1s at *
  generalize U % y1 = r1s at *
  generalize R1 / y1 = q2s at *
  generalize R1 % y1 = r2s at *
  generalize q1s * y1 = p1 at *
  generalize q2s * y1 = p2 at *
  have HD1 := Lib.hid D1
  have HD2 := Lib.hid D2
  have HQ1 := Lib.hid hQ1
  have HQ0 := Lib.hid hQ0
  have HB1 := Lib.hid (And.intro D1f D1r)
  have HB2 := Lib.hid (And.intro D2f D2r)
  have HY := Lib.hid (And.intro hyb (And.intro hu1b (And.intro hu0b (And.intro hy0b hy1b))))
  obtain ⟨hi', hhi⟩ : ∃ hi' : Int, hi' = hi := ⟨_, rfl⟩
  clear hUn hUm hqym hQ1B D1 D2 hQ1 hQ0 D1f D1r D2f D2r hyb hu1b hu0b hy0b hy1b hR1lt hQ1lt hQR hqy hDP hqlt hfin hUb hT hY1 hY2 hy1 hy0 hu1 hu0 hR1 hhi
  go_enter Try.func36, Try.ntmps36
  go_wp2_with fail
  refine (HLZ.out _).mono ?_
  rintro e w' ⟨rfl, rfl⟩
  clear HLZ d1 d2 d3 ws
  go_wp2_with fail
  go_loop [15, 16] (fun a b => ∃ q r : Nat, Hid (Dig Y y1 y0 U u1 q r) ∧ Hid (q ≤ 4294967297 ∧ r < 4294967296) ∧ a = .int .u64 (q : Nat) ∧ b = .int .u64 (r : Nat)) (fun a _ => (intOf a).toNat)
  case atStart => exact ⟨_, _, HD1, HB1, rfl, rfl⟩
  case round =>
    obtain ⟨q, r, hdig, hqr, rfl, rfl⟩ := hrel
    obtain ⟨hq, hr⟩ := hqr.out
    obtain ⟨h31, hu1b, hu0b, hy0b, hy1b⟩ := HY.out
    clear hqr
    obtain ⟨qi, hqi⟩ : ∃ qi : Int, qi = (q : Int) := ⟨_, rfl⟩
    obtain ⟨ri, hri⟩ : ∃ ri : Int, ri = (r : Int) := ⟨_, rfl⟩
    rw [← hqi, ← hri]
    obtain ⟨rn, hrn⟩ : ∃ rn, rn = r + y1 := ⟨_, rfl⟩
    obtain ⟨rni, hrni⟩ : ∃ rni : Int, rni = (rn : Int) := ⟨_, rfl⟩
    obtain ⟨qni, hqni⟩ : ∃ qni : Int, qni = qi - 1 := ⟨_, rfl⟩
    have n2 : IntKind.u64.wrap (ri + (y1 : Int)) = rni := by rw [IntKind.wrap_u64]; omega
    have hmul := Nat.mul_le_mul hq (show y0 ≤ 4294967295 by omega)
    by_cases c1 : 4294967296 ≤ qi
    · have hnext := dig_next hdig.out hq hr (.inl (by omega))
      have n1 : IntKind.u64.wrap (qi - 1) = qni := by rw [IntKind.wrap_u64]; omega
      have HN := Lib.hid hnext
      have HI := Lib.hid (And.intro hqi (And.intro hri (And.intro hrn (And.intro hrni hqni))))
      have HQR := Lib.hid (And.intro hq hr)
      by_cases c3 : 4294967296 ≤ rni
      · have hX : qni = (Q1 : Int) := by
          obtain ⟨e1, e2, e3, e4, e5⟩ := HI.out
          obtain ⟨k1, k2, k3⟩ := HN.out
          have := k2 (by omega)
          rw [← HQ1.out] at this
          omega
        have T3 : IntKind.u64.wrap (qni * (Y : Int)) = qym := by rw [hX]; exact t3
        have T5 : IntKind.u64.wrap (qni * 4294967296) = Q1B := by rw [hX]; exact t5
        clear hqi hri hrn hrni hqni hq hr hmul hnext h31 hu1b hu0b hy0b hy1b hX HI HN HQR
        go_wp2
        go_loop [16, 18] (fun b a => ∃ q r : Nat, Hid (Dig Y y1 y0 R1 u0 q r) ∧ Hid (q ≤ 4294967297 ∧ r < 4294967296) ∧ a = .int .u64 (q : Nat) ∧ b = .int .u64 (r : Nat)) (fun _ a => (intOf a).toNat)
        case atStart => exact ⟨_, _, HD2, HB2, rfl, rfl⟩
        case round =>
          obtain ⟨q, r, hdig, hqr, rfl, rfl⟩ := hrel
          obtain ⟨hq, hr⟩ := hqr.out
          obtain ⟨h31, hu1b, hu0b, hy0b, hy1b⟩ := HY.out
          clear hqr
          obtain ⟨qi, hqi⟩ : ∃ qi : Int, qi = (q : Int) := ⟨_, rfl⟩
          obtain ⟨ri, hri⟩ : ∃ ri : Int, ri = (r : Int) := ⟨_, rfl⟩
          rw [← hqi, ← hri]
          obtain ⟨rn, hrn⟩ : ∃ rn, rn = r + y1 := ⟨_, rfl⟩
          obtain ⟨rni, hrni⟩ : ∃ rni : Int, rni = (rn : Int) := ⟨_, rfl⟩
          obtain ⟨qni, hqni⟩ : ∃ qni : Int, qni = qi - 1 := ⟨_, rfl⟩
          have n2 : IntKind.u64.wrap (ri + (y1 : Int)) = rni := by rw [IntKind.wrap_u64]; omega
          have hmul := Nat.mul_le_mul hq (show y0 ≤ 4294967295 by omega)
          by_cases c1 : 4294967296 ≤ qi
          · have hnext := dig_next hdig.out hq hr (.inl (by omega))
            have n1 : IntKind.u64.wrap (qi - 1) = qni := by rw [IntKind.wrap_u64]; omega
            have HN := Lib.hid hnext
            have HI := Lib.hid (And.intro hqi (And.intro hri (And.intro hrn (And.intro hrni hqni))))
            have HQR := Lib.hid (And.intro hq hr)
            by_cases c3 : 4294967296 ≤ rni
            · have hX : qni = (Q0 : Int) := by
                obtain ⟨e1, e2, e3, e4, e5⟩ := HI.out
                obtain ⟨k1, k2, k3⟩ := HN.out
                have := k2 (by omega)
                rw [← HQ0.out] at this
                omega
              have T6 : IntKind.u64.wrap ((Q1B : Int) + qni) = (Q : Int) := by rw [hX]; exact t6
              clear hqi hri hrn hrni hqni hq hr hmul hnext h31 hu1b hu0b hy0b hy1b hX HI HN HQR
              go_wp2
              go_ret2
              exact ⟨⟨_, rfl⟩, rfl⟩
            · clear hqi hri hrn hrni hqni hq hr hmul hnext h31 hu1b hu0b hy0b hy1b
              go_wp2
              obtain ⟨e1, e2, e3, e4, e5⟩ := HI.out
              obtain ⟨k1, k2, k3⟩ := HN.out
              obtain ⟨l1, l2⟩ := HQR.out
              go_round
              case rel => exact ⟨q - 1, rn, Lib.hid (by rw [e3]; exact k3), Lib.hid (by omega), by rw [show qni = ((q - 1 : Nat) : Int) by omega], by rw [e4]⟩
              case measure => simp [intOf]; omega
          · have hq2 : q < 4294967296 := by omega
            have hm32 := Nat.mul_le_mul (show q ≤ 4294967295 by omega) (show y0 ≤ 4294967295 by omega)
            obtain ⟨m, hm⟩ : ∃ m, m = q * y0 := ⟨_, rfl⟩
            rw [← hm] at hm32
            obtain ⟨mi, hmi⟩ : ∃ mi : Int, mi = (m : Int) := ⟨_, rfl⟩
            obtain ⟨ki, hki⟩ : ∃ ki : Int, ki = 4294967296 * ri := ⟨_, rfl⟩
            obtain ⟨li, hli⟩ : ∃ li : Int, li = ki + (u0 : Int) := ⟨_, rfl⟩
            have g1 : IntKind.u64.wrap (qi * (y0 : Int)) = mi := by rw [hqi, ← Int.natCast_mul, ← hm, ← hmi, IntKind.wrap_u64]; omega
            have g2 : IntKind.u64.wrap (4294967296 * ri) = ki := by rw [IntKind.wrap_u64]; omega
            have g3 : IntKind.u64.wrap (ki + (u0 : Int)) = li := by rw [IntKind.wrap_u64]; omega
            have c1' : qi < 4294967296 := by omega
            clear c1
            by_cases c2 : li < mi
            · have hnext := dig_next hdig.out hq hr (.inr (by rw [← hm]; omega))
              clear hm32 hmi hki hli hm hq2
              have n1 : IntKind.u64.wrap (qi - 1) = qni := by rw [IntKind.wrap_u64]; omega
              have HN := Lib.hid hnext
              have HI := Lib.hid (And.intro hqi (And.intro hri (And.intro hrn (And.intro hrni hqni))))
              have HQR := Lib.hid (And.intro hq hr)
              by_cases c3 : 4294967296 ≤ rni
              · have hX : qni = (Q0 : Int) := by
                  obtain ⟨e1, e2, e3, e4, e5⟩ := HI.out
                  obtain ⟨k1, k2, k3⟩ := HN.out
                  have := k2 (by omega)
                  rw [← HQ0.out] at this
                  omega
                have T6 : IntKind.u64.wrap ((Q1B : Int) + qni) = (Q : Int) := by rw [hX]; exact t6
                clear hqi hri hrn hrni hqni hq hr hmul hnext h31 hu1b hu0b hy0b hy1b hX HI HN HQR
                go_wp2
                go_ret2
                exact ⟨⟨_, rfl⟩, rfl⟩
              · clear hqi hri hrn hrni hqni hq hr hmul hnext h31 hu1b hu0b hy0b hy1b
                go_wp2
                obtain ⟨e1, e2, e3, e4, e5⟩ := HI.out
                obtain ⟨k1, k2, k3⟩ := HN.out
                obtain ⟨l1, l2⟩ := HQR.out
                go_round
                case rel => exact ⟨q - 1, rn, Lib.hid (by rw [e3]; exact k3), Lib.hid (by omega), by rw [show qni = ((q - 1 : Nat) : Int) by omega], by rw [e4]⟩
                case measure => simp [intOf]; omega
            · have hX : qi = (Q0 : Int) := by
                have := dig_done hdig.out (by rw [← hm]; omega)
                rw [← HQ0.out] at this
                omega
              have n1 : True := trivial
              have HN : True := trivial
              have HI : True := trivial
              have HQR : True := trivial
              have hnext : True := trivial
              have c2' : mi ≤ li := by omega
              clear hm32 hmi hki hli hm hq2 c2
              have T6 : IntKind.u64.wrap ((Q1B : Int) + qi) = (Q : Int) := by rw [hX]; exact t6
              clear hqi hri hrn hrni hqni hq hr hmul hnext h31 hu1b hu0b hy0b hy1b hX HI HN HQR
              go_wp2
              go_ret2
              exact ⟨⟨_, rfl⟩, rfl⟩
      · clear hqi hri hrn hrni hqni hq hr hmul hnext h31 hu1b hu0b hy0b hy1b
        go_wp2
        obtain ⟨e1, e2, e3, e4, e5⟩ := HI.out
        obtain ⟨k1, k2, k3⟩ := HN.out
        obtain ⟨l1, l2⟩ := HQR.out
        go_round
        case rel => exact ⟨q - 1, rn, Lib.hid (by rw [e3]; exact k3), Lib.hid (by omega), by rw [show qni = ((q - 1 : Nat) : Int) by omega], by rw [e4]⟩
        case measure => simp [intOf]; omega
    · have hq2 : q < 4294967296 := by omega
      have hm32 := Nat.mul_le_mul (show q ≤ 4294967295 by omega) (show y0 ≤ 4294967295 by omega)
      obtain ⟨m, hm⟩ : ∃ m, m = q * y0 := ⟨_, rfl⟩
      rw [← hm] at hm32
      obtain ⟨mi, hmi⟩ : ∃ mi : Int, mi = (m : Int) := ⟨_, rfl⟩
      obtain ⟨ki, hki⟩ : ∃ ki : Int, ki = 4294967296 * ri := ⟨_, rfl⟩
      obtain ⟨li, hli⟩ : ∃ li : Int, li = ki + (u1 : Int) := ⟨_, rfl⟩
      have g1 : IntKind.u64.wrap (qi * (y0 : Int)) = mi := by rw [hqi, ← Int.natCast_mul, ← hm, ← hmi, IntKind.wrap_u64]; omega
      have g2 : IntKind.u64.wrap (4294967296 * ri) = ki := by rw [IntKind.wrap_u64]; omega
      have g3 : IntKind.u64.wrap (ki + (u1 : Int)) = li := by rw [IntKind.wrap_u64]; omega
      have c1' : qi < 4294967296 := by omega
      clear c1
      by_cases c2 : li < mi
      · have hnext := dig_next hdig.out hq hr (.inr (by rw [← hm]; omega))
        clear hm32 hmi hki hli hm hq2
        have n1 : IntKind.u64.wrap (qi - 1) = qni := by rw [IntKind.wrap_u64]; omega
        have HN := Lib.hid hnext
        have HI := Lib.hid (And.intro hqi (And.intro hri (And.intro hrn (And.intro hrni hqni))))
        have HQR := Lib.hid (And.intro hq hr)
        by_cases c3 : 4294967296 ≤ rni
        · have hX : qni = (Q1 : Int) := by
            obtain ⟨e1, e2, e3, e4, e5⟩ := HI.out
            obtain ⟨k1, k2, k3⟩ := HN.out
            have := k2 (by omega)
            rw [← HQ1.out] at this
            omega
          have T3 : IntKind.u64.wrap (qni * (Y : Int)) = qym := by rw [hX]; exact t3
          have T5 : IntKind.u64.wrap (qni * 4294967296) = Q1B := by rw [hX]; exact t5
          clear hqi hri hrn hrni hqni hq hr hmul hnext h31 hu1b hu0b hy0b hy1b hX HI HN HQR
          go_wp2
          go_loop [16, 18] (fun b a => ∃ q r : Nat, Hid (Dig Y y1 y0 R1 u0 q r) ∧ Hid (q ≤ 4294967297 ∧ r < 4294967296) ∧ a = .int .u64 (q : Nat) ∧ b = .int .u64 (r : Nat)) (fun _ a => (intOf a).toNat)
          case atStart => exact ⟨_, _, HD2, HB2, rfl, rfl⟩
          case round =>
            obtain ⟨q, r, hdig, hqr, rfl, rfl⟩ := hrel
            obtain ⟨hq, hr⟩ := hqr.out
            obtain ⟨h31, hu1b, hu0b, hy0b, hy1b⟩ := HY.out
            clear hqr
            obtain ⟨qi, hqi⟩ : ∃ qi : Int, qi = (q : Int) := ⟨_, rfl⟩
            obtain ⟨ri, hri⟩ : ∃ ri : Int, ri = (r : Int) := ⟨_, rfl⟩
            rw [← hqi, ← hri]
            obtain ⟨rn, hrn⟩ : ∃ rn, rn = r + y1 := ⟨_, rfl⟩
            obtain ⟨rni, hrni⟩ : ∃ rni : Int, rni = (rn : Int) := ⟨_, rfl⟩
            obtain ⟨qni, hqni⟩ : ∃ qni : Int, qni = qi - 1 := ⟨_, rfl⟩
            have n2 : IntKind.u64.wrap (ri + (y1 : Int)) = rni := by rw [IntKind.wrap_u64]; omega
            have hmul := Nat.mul_le_mul hq (show y0 ≤ 4294967295 by omega)
            by_cases c1 : 4294967296 ≤ qi
            · have hnext := dig_next hdig.out hq hr (.inl (by omega))
              have n1 : IntKind.u64.wrap (qi - 1) = qni := by rw [IntKind.wrap_u64]; omega
              have HN := Lib.hid hnext
              have HI := Lib.hid (And.intro hqi (And.intro hri (And.intro hrn (And.intro hrni hqni))))
              have HQR := Lib.hid (And.intro hq hr)
              by_cases c3 : 4294967296 ≤ rni
              · have hX : qni = (Q0 : Int) := by
                  obtain ⟨e1, e2, e3, e4, e5⟩ := HI.out
                  obtain ⟨k1, k2, k3⟩ := HN.out
                  have := k2 (by omega)
                  rw [← HQ0.out] at this
                  omega
                have T6 : IntKind.u64.wrap ((Q1B : Int) + qni) = (Q : Int) := by rw [hX]; exact t6
                clear hqi hri hrn hrni hqni hq hr hmul hnext h31 hu1b hu0b hy0b hy1b hX HI HN HQR
                go_wp2
                go_ret2
                exact ⟨⟨_, rfl⟩, rfl⟩
              · clear hqi hri hrn hrni hqni hq hr hmul hnext h31 hu1b hu0b hy0b hy1b
                go_wp2
                obtain ⟨e1, e2, e3, e4, e5⟩ := HI.out
                obtain ⟨k1, k2, k3⟩ := HN.out
                obtain ⟨l1, l2⟩ := HQR.out
                go_round
                case rel => exact ⟨q - 1, rn, Lib.hid (by rw [e3]; exact k3), Lib.hid (by omega), by rw [show qni = ((q - 1 : Nat) : Int) by omega], by rw [e4]⟩
                case measure => simp [intOf]; omega
            · have hq2 : q < 4294967296 := by omega
              have hm32 := Nat.mul_le_mul (show q ≤ 4294967295 by omega) (show y0 ≤ 4294967295 by omega)
              obtain ⟨m, hm⟩ : ∃ m, m = q * y0 := ⟨_, rfl⟩
              rw [← hm] at hm32
              obtain ⟨mi, hmi⟩ : ∃ mi : Int, mi = (m : Int) := ⟨_, rfl⟩
              obtain ⟨ki, hki⟩ : ∃ ki : Int, ki = 4294967296 * ri := ⟨_, rfl⟩
              obtain ⟨li, hli⟩ : ∃ li : Int, li = ki + (u0 : Int) := ⟨_, rfl⟩
              have g1 : IntKind.u64.wrap (qi * (y0 : Int)) = mi := by rw [hqi, ← Int.natCast_mul, ← hm, ← hmi, IntKind.wrap_u64]; omega
              have g2 : IntKind.u64.wrap (4294967296 * ri) = ki := by rw [IntKind.wrap_u64]; omega
              have g3 : IntKind.u64.wrap (ki + (u0 : Int)) = li := by rw [IntKind.wrap_u64]; omega
              have c1' : qi < 4294967296 := by omega
              clear c1
              by_cases c2 : li < mi
              · have hnext := dig_next hdig.out hq hr (.inr (by rw [← hm]; omega))
                clear hm32 hmi hki hli hm hq2
                have n1 : IntKind.u64.wrap (qi - 1) = qni := by rw [IntKind.wrap_u64]; omega
                have HN := Lib.hid hnext
                have HI := Lib.hid (And.intro hqi (And.intro hri (And.intro hrn (And.intro hrni hqni))))
                have HQR := Lib.hid (And.intro hq hr)
                by_cases c3 : 4294967296 ≤ rni
                · have hX : qni = (Q0 : Int) := by
                    obtain ⟨e1, e2, e3, e4, e5⟩ := HI.out
                    obtain ⟨k1, k2, k3⟩ := HN.out
                    have := k2 (by omega)
                    rw [← HQ0.out] at this
                    omega
                  have T6 : IntKind.u64.wrap ((Q1B : Int) + qni) = (Q : Int) := by rw [hX]; exact t6
                  clear hqi hri hrn hrni hqni hq hr hmul hnext h31 hu1b hu0b hy0b hy1b hX HI HN HQR
                  go_wp2
                  go_ret2
                  exact ⟨⟨_, rfl⟩, rfl⟩
                · clear hqi hri hrn hrni hqni hq hr hmul hnext h31 hu1b hu0b hy0b hy1b
                  go_wp2
                  obtain ⟨e1, e2, e3, e4, e5⟩ := HI.out
                  obtain ⟨k1, k2, k3⟩ := HN.out
                  obtain ⟨l1, l2⟩ := HQR.out
                  go_round
                  case rel => exact ⟨q - 1, rn, Lib.hid (by rw [e3]; exact k3), Lib.hid (by omega), by rw [show qni = ((q - 1 : Nat) : Int) by omega], by rw [e4]⟩
                  case measure => simp [intOf]; omega
              · have hX : qi = (Q0 : Int) := by
                  have := dig_done hdig.out (by rw [← hm]; omega)
                  rw [← HQ0.out] at this
                  omega
                have n1 : True := trivial
                have HN : True := trivial
                have HI : True := trivial
                have HQR : True := trivial
                have hnext : True := trivial
                have c2' : mi ≤ li := by omega
                clear hm32 hmi hki hli hm hq2 c2
                have T6 : IntKind.u64.wrap ((Q1B : Int) + qi) = (Q : Int) := by rw [hX]; exact t6
                clear hqi hri hrn hrni hqni hq hr hmul hnext h31 hu1b hu0b hy0b hy1b hX HI HN HQR
                go_wp2
                go_ret2
                exact ⟨⟨_, rfl⟩, rfl⟩
        · clear hqi hri hrn hrni hqni hq hr hmul hnext h31 hu1b hu0b hy0b hy1b
          go_wp2
          obtain ⟨e1, e2, e3, e4, e5⟩ := HI.out
          obtain ⟨k1, k2, k3⟩ := HN.out
          obtain ⟨l1, l2⟩ := HQR.out
          go_round
          case rel => exact ⟨q - 1, rn, Lib.hid (by rw [e3]; exact k3), Lib.hid (by omega), by rw [show qni = ((q - 1 : Nat) : Int) by omega], by rw [e4]⟩
          case measure => simp [intOf]; omega
      · have hX : qi = (Q1 : Int) := by
          have := dig_done hdig.out (by rw [← hm]; omega)
          rw [← HQ1.out] at this
          omega
        have n1 : True := trivial
        have HN : True := trivial
        have HI : True := trivial
        have HQR : True := trivial
        have hnext : True := trivial
        have c2' : mi ≤ li := by omega
        clear hm32 hmi hki hli hm hq2 c2
        have T3 : IntKind.u64.wrap (qi * (Y : Int)) = qym := by rw [hX]; exact t3
        have T5 : IntKind.u64.wrap (qi * 4294967296) = Q1B := by rw [hX]; exact t5
        clear hqi hri hrn hrni hqni hq hr hmul hnext h31 hu1b hu0b hy0b hy1b hX HI HN HQR
        go_wp2
        go_loop [16, 18] (fun b a => ∃ q r : Nat, Hid (Dig Y y1 y0 R1 u0 q r) ∧ Hid (q ≤ 4294967297 ∧ r < 4294967296) ∧ a = .int .u64 (q : Nat) ∧ b = .int .u64 (r : Nat)) (fun _ a => (intOf a).toNat)
        case atStart => exact ⟨_, _, HD2, HB2, rfl, rfl⟩
        case round =>
          obtain ⟨q, r, hdig, hqr, rfl, rfl⟩ := hrel
          obtain ⟨hq, hr⟩ := hqr.out
          obtain ⟨h31, hu1b, hu0b, hy0b, hy1b⟩ := HY.out
          clear hqr
          obtain ⟨qi, hqi⟩ : ∃ qi : Int, qi = (q : Int) := ⟨_, rfl⟩
          obtain ⟨ri, hri⟩ : ∃ ri : Int, ri = (r : Int) := ⟨_, rfl⟩
          rw [← hqi, ← hri]
          obtain ⟨rn, hrn⟩ : ∃ rn, rn = r + y1 := ⟨_, rfl⟩
          obtain ⟨rni, hrni⟩ : ∃ rni : Int, rni = (rn : Int) := ⟨_, rfl⟩
          obtain ⟨qni, hqni⟩ : ∃ qni : Int, qni = qi - 1 := ⟨_, rfl⟩
          have n2 : IntKind.u64.wrap (ri + (y1 : Int)) = rni := by rw [IntKind.wrap_u64]; omega
          have hmul := Nat.mul_le_mul hq (show y0 ≤ 4294967295 by omega)
          by_cases c1 : 4294967296 ≤ qi
          · have hnext := dig_next hdig.out hq hr (.inl (by omega))
            have n1 : IntKind.u64.wrap (qi - 1) = qni := by rw [IntKind.wrap_u64]; omega
            have HN := Lib.hid hnext
            have HI := Lib.hid (And.intro hqi (And.intro hri (And.intro hrn (And.intro hrni hqni))))
            have HQR := Lib.hid (And.intro hq hr)
            by_cases c3 : 4294967296 ≤ rni
            · have hX : qni = (Q0 : Int) := by
                obtain ⟨e1, e2, e3, e4, e5⟩ := HI.out
                obtain ⟨k1, k2, k3⟩ := HN.out
                have := k2 (by omega)
                rw [← HQ0.out] at this
                omega
              have T6 : IntKind.u64.wrap ((Q1B : Int) + qni) = (Q : Int) := by rw [hX]; exact t6
              clear hqi hri hrn hrni hqni hq hr hmul hnext h31 hu1b hu0b hy0b hy1b hX HI HN HQR
              go_wp2
              go_ret2
              exact ⟨⟨_, rfl⟩, rfl⟩
            · clear hqi hri hrn hrni hqni hq hr hmul hnext h31 hu1b hu0b hy0b hy1b
              go_wp2
              obtain ⟨e1, e2, e3, e4, e5⟩ := HI.out
              obtain ⟨k1, k2, k3⟩ := HN.out
              obtain ⟨l1, l2⟩ := HQR.out
              go_round
              case rel => exact ⟨q - 1, rn, Lib.hid (by rw [e3]; exact k3), Lib.hid (by omega), by rw [show qni = ((q - 1 : Nat) : Int) by omega], by rw [e4]⟩
              case measure => simp [intOf]; omega
          · have hq2 : q < 4294967296 := by omega
            have hm32 := Nat.mul_le_mul (show q ≤ 4294967295 by omega) (show y0 ≤ 4294967295 by omega)
            obtain ⟨m, hm⟩ : ∃ m, m = q * y0 := ⟨_, rfl⟩
            rw [← hm] at hm32
            obtain ⟨mi, hmi⟩ : ∃ mi : Int, mi = (m : Int) := ⟨_, rfl⟩
            obtain ⟨ki, hki⟩ : ∃ ki : Int, ki = 4294967296 * ri := ⟨_, rfl⟩
            obtain ⟨li, hli⟩ : ∃ li : Int, li = ki + (u0 : Int) := ⟨_, rfl⟩
            have g1 : IntKind.u64.wrap (qi * (y0 : Int)) = mi := by rw [hqi, ← Int.natCast_mul, ← hm, ← hmi, IntKind.wrap_u64]; omega
            have g2 : IntKind.u64.wrap (4294967296 * ri) = ki := by rw [IntKind.wrap_u64]; omega
            have g3 : IntKind.u64.wrap (ki + (u0 : Int)) = li := by rw [IntKind.wrap_u64]; omega
            have c1' : qi < 4294967296 := by omega
            clear c1
            by_cases c2 : li < mi
            · have hnext := dig_next hdig.out hq hr (.inr (by rw [← hm]; omega))
              clear hm32 hmi hki hli hm hq2
              have n1 : IntKind.u64.wrap (qi - 1) = qni := by rw [IntKind.wrap_u64]; omega
              have HN := Lib.hid hnext
              have HI := Lib.hid (And.intro hqi (And.intro hri (And.intro hrn (And.intro hrni hqni))))
              have HQR := Lib.hid (And.intro hq hr)
              by_cases c3 : 4294967296 ≤ rni
              · have hX : qni = (Q0 : Int) := by
                  obtain ⟨e1, e2, e3, e4, e5⟩ := HI.out
                  obtain ⟨k1, k2, k3⟩ := HN.out
                  have := k2 (by omega)
                  rw [← HQ0.out] at this
                  omega
                have T6 : IntKind.u64.wrap ((Q1B : Int) + qni) = (Q : Int) := by rw [hX]; exact t6
                clear hqi hri hrn hrni hqni hq hr hmul hnext h31 hu1b hu0b hy0b hy1b hX HI HN HQR
                go_wp2
                go_ret2
                exact ⟨⟨_, rfl⟩, rfl⟩
              · clear hqi hri hrn hrni hqni hq hr hmul hnext h31 hu1b hu0b hy0b hy1b
                go_wp2
                obtain ⟨e1, e2, e3, e4, e5⟩ := HI.out
                obtain ⟨k1, k2, k3⟩ := HN.out
                obtain ⟨l1, l2⟩ := HQR.out
                go_round
                case rel => exact ⟨q - 1, rn, Lib.hid (by rw [e3]; exact k3), Lib.hid (by omega), by rw [show qni = ((q - 1 : Nat) : Int) by omega], by rw [e4]⟩
                case measure => simp [intOf]; omega
            · have hX : qi = (Q0 : Int) := by
                have := dig_done hdig.out (by rw [← hm]; omega)
                rw [← HQ0.out] at this
                omega
              have n1 : True := trivial
              have HN : True := trivial
              have HI : True := trivial
              have HQR : True := trivial
              have hnext : True := trivial
              have c2' : mi ≤ li := by omega
              clear hm32 hmi hki hli hm hq2 c2
              have T6 : IntKind.u64.wrap ((Q1B : Int) + qi) = (Q : Int) := by rw [hX]; exact t6
              clear hqi hri hrn hrni hqni hq hr hmul hnext h31 hu1b hu0b hy0b hy1b hX HI HN HQR
              go_wp2
              go_ret2
              exact ⟨⟨_, rfl⟩, rfl⟩
end Go.Proofs.Ytflgnlpippjhcaa

/- Safe: Share, the program's and the document's. -/
set_option linter.unusedVariables false
namespace Go.Proofs.Ytflgnlpippjhcaa
open Go.RowKit

theorem below_drew {w : World} (m : Nat) : Below w.heap.size w (w.drewN m) := ⟨rfl, rfl, rfl, Nat.le_refl _, fun _ _ => rfl⟩
theorem div_c (hi lo y : Nat) (hy : hi < y) (hlo : lo < 18446744073709551616) (hy2 : y < 18446744073709551616) (w : World) : Calls Try.prog 36 #[.int .u64 (hi : Nat), .int .u64 (lo : Nat), .int .u64 (y : Nat)] w fun e w' => (∃ r : Int, e = .returned (.tuple #[.int .u64 (((hi * 18446744073709551616 + lo) / y : Nat) : Int), .int .u64 r])) ∧ ∃ m, w' = w.drewN m := by
  rcases Nat.eq_zero_or_pos hi with h | h
  · subst h
    have := div_zero lo y (by omega) hlo hy2 w
    rw [Nat.zero_mul, Nat.zero_add]
    exact this
  · exact (div_big hi lo y h hy hlo hy2 w).mono fun e w' ⟨h1, h2⟩ => ⟨h1, 0, h2.symm⟩

/-- A long division, k digits in. -/
structure Lng (a b : Int) (k : Nat) (q r : Int) : Prop where
  eq : a * 2 ^ k = q * b + r
  r0 : 0 ≤ r
  r1 : r < b
  q0 : 0 ≤ q
theorem lng_start {a b : Int} (ha : 0 ≤ a) (hb : 1 ≤ b) : Lng a b 0 (a / b) (a % b) :=
  ⟨by rw [Int.pow_zero, Int.mul_one]; exact (Int.ediv_mul_add_emod a b).symm, Int.emod_nonneg a (by omega), Int.emod_lt_of_pos a (by omega), Int.ediv_nonneg ha (by omega)⟩
theorem lng_up {a b : Int} {k : Nat} {q r : Int} (h : Lng a b k q r) (ht : b - r ≤ r) : Lng a b (k + 1) (q * 2 + 1) (r - (b - r)) := by
  refine ⟨?_, by omega, by have := h.r1; omega, by have := h.q0; omega⟩
  rw [Int.pow_succ, ← Int.mul_assoc, h.eq]; grind
theorem lng_down {a b : Int} {k : Nat} {q r : Int} (h : Lng a b k q r) (ht : r < b - r) : Lng a b (k + 1) (q * 2) (r + r) := by
  refine ⟨?_, by have := h.r0; omega, by omega, by have := h.q0; omega⟩
  rw [Int.pow_succ, ← Int.mul_assoc, h.eq]; grind
theorem lng_end {a b : Int} {q r : Int} (h : Lng a b 32 q r) : shareX a b = q := by
  have e : a * 4294967296 = q * b + r := h.eq
  have hb : 0 < b := by have := h.r0; have := h.r1; omega
  unfold shareX
  rw [e, Int.add_comm, Int.add_mul_ediv_right _ _ (by omega), Int.ediv_eq_zero_of_lt h.r0 h.r1]
  omega
theorem lng_many {a b : Int} {k : Nat} {q r : Int} (h : Lng a b k q r) (hk : k < 32) (hq : 4611686018427387903 < q) : 9223372036854775807 < shareX a b := by
  have hb : 0 < b := by have := h.r0; have := h.r1; omega
  obtain ⟨j, hj⟩ : ∃ j, 32 = k + (j + 1) := ⟨31 - k, by omega⟩
  have hp : (1 : Int) ≤ 2 ^ j := by have : (0 : Int) < 2 ^ j := Int.pow_pos (by omega); omega
  have e : a * 4294967296 = (q * b + r) * 2 ^ (j + 1) := by
    rw [← h.eq, Int.mul_assoc, ← Int.pow_add, ← hj]; rfl
  have h1 : q * 2 ≤ shareX a b := by
    unfold shareX
    rw [Int.le_ediv_iff_mul_le hb, e, Int.pow_succ]
    have h2 : q * b * 1 ≤ q * b * 2 ^ j := Int.mul_le_mul_of_nonneg_left hp (Int.mul_nonneg h.q0 (by omega))
    have h3 : 0 ≤ r * 2 ^ j := Int.mul_nonneg h.r0 (by omega)
    have e2 : (q * b + r) * (2 ^ j * 2) = 2 * (q * b * 2 ^ j) + 2 * (r * 2 ^ j) := by grind
    have e3 : q * 2 * b = 2 * (q * b) := by grind
    rw [e2, e3]
    omega
  omega
end Go.Proofs.Ytflgnlpippjhcaa

