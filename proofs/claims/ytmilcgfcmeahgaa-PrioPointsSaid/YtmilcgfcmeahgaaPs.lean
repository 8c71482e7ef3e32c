/- Cut by program (cut_tpl.py) out of my templates XYp XY1 XY2 XY3. -/
import Derived.Test.YtmilcgfcmeahgaaProg
import Derived.Below
import Derived.WalkKit
import Derived.Laws.BitsAllLaws
import Derived.Laws.Bits64
import Derived.Laws.Shifts
import Derived.WalkLawsBesides
import Derived.WalkSpells
import Derived.Deep.QuietTactic
import Derived.BigQuiet
import Derived.Lib.Hide
import Derived.Outline
import Derived.IntWalk
/- Safe: what the functions answer, in numbers; the plain laws. -/
namespace Go.Proofs.Ytmilcgfcmeahgaa

def fits (x : Int) : Bool := decide (-9223372036854775808 ≤ x) && decide (x ≤ 9223372036854775807)
theorem fits_iff (x : Int) : fits x = true ↔ -9223372036854775808 ≤ x ∧ x ≤ 9223372036854775807 := by simp [fits]
def inI (x : Int) : Prop := -9223372036854775808 ≤ x ∧ x ≤ 9223372036854775807
/-- An answer, or refused. -/
def okV (x : Int) : Int := if fits x then x else 0
def okE (x : Int) : Int := if fits x then 0 else 5
theorem okV_in (x : Int) : inI (okV x) := by
  unfold okV inI
  cases h : fits x
  · simp
  · rw [fits_iff] at h; simpa using h
def mostV (x : Int) : Int := if x < -9223372036854775808 then -9223372036854775808 else if 9223372036854775807 < x then 9223372036854775807 else x
def shareX (a b : Int) : Int := a * 4294967296 / b
def ofX (s n : Int) : Int := s * n / 4294967296
def shareV (a b : Int) : Int := if b < 1 ∨ a < 0 then 0 else okV (shareX a b)
def shareE (a b : Int) : Int := if b < 1 ∨ a < 0 then 1 else okE (shareX a b)
def shofV (s n : Int) : Int := if s < 0 ∨ n < 0 then 0 else okV (ofX s n)
def shofE (s n : Int) : Int := if s < 0 ∨ n < 0 then 1 else okE (ofX s n)
def halvesV (n k : Int) : Int := if k < 1 then n else if 62 < k then 0 else n.tdiv (2 ^ k.toNat)
def clampV (a lo hi : Int) : Int := if a < lo then lo else if hi < a then hi else a
def int32V (n : Int) : Int := if n < -2147483648 ∨ 2147483647 < n then 0 else n
def int32E (n : Int) : Int := if n < -2147483648 ∨ 2147483647 < n then 5 else 0
/-- The sum, from the left, while it fits. -/
def sumF : Int → List Int → Option Int
  | n, [] => some n
  | n, x :: l => if fits (n + x) then sumF (n + x) l else none
def sumV (l : List Int) : Int := (sumF 0 l).getD 0
def sumE (l : List Int) : Int := if (sumF 0 l).isSome then 0 else 5

theorem shareX_nonneg {a b : Int} (ha : 0 ≤ a) (hb : 1 ≤ b) : 0 ≤ shareX a b := Int.ediv_nonneg (by omega) (by omega)
theorem law_part (p b : Int) (hp : 0 ≤ p) (hp2 : p < 2147483648) (hb : 1 ≤ b) (hb2 : b < 4294967296) :
    shareE p b = 0 ∧ shofE (shareV p b) b = 0 ∧ shofV (shareV p b) b ≤ p ∧ p - 1 ≤ shofV (shareV p b) b := by
  have h1 : shareX p b ≤ p * 4294967296 := by
    unfold shareX
    have := Int.ediv_le_self (a := p * 4294967296) b (by omega)
    exact this
  have h0 := shareX_nonneg hp hb
  have f1 : fits (shareX p b) = true := by rw [fits_iff]; omega
  have e1 : shareV p b = shareX p b := by unfold shareV okV; rw [if_neg (by omega), f1]; rfl
  have e2 : shareE p b = 0 := by unfold shareE okE; rw [if_neg (by omega), f1]; rfl
  have m1 : shareX p b * b ≤ p * 4294967296 := Int.ediv_mul_le _ (by omega)
  have m2 : p * 4294967296 < (shareX p b + 1) * b := by
    have := Int.lt_ediv_add_one_mul_self (p * 4294967296) (show 0 < b by omega)
    exact this
  have m3 : p * 4294967296 < shareX p b * b + b := by rw [Int.add_mul] at m2; omega
  have m4 : 0 ≤ shareX p b * b := Int.mul_nonneg h0 (by omega)
  generalize hm : shareX p b * b = m at *
  have e3 : ofX (shareX p b) b = m / 4294967296 := by unfold ofX; rw [hm]
  have f2 : fits (ofX (shareX p b) b) = true := by rw [fits_iff, e3]; omega
  rw [e1]
  have e4 : shofV (shareX p b) b = m / 4294967296 := by unfold shofV okV; rw [if_neg (by omega), f2, e3]; rfl
  refine ⟨e2, ?_, ?_, ?_⟩
  · unfold shofE okE; rw [if_neg (by omega), f2]; rfl
  · rw [e4]; omega
  · rw [e4]; omega

theorem tdiv_bounds (n p : Int) (hp : 1 ≤ p) : (0 ≤ n → 0 ≤ n.tdiv p ∧ n.tdiv p ≤ n) ∧ (n < 0 → n.tdiv p ≤ 0 ∧ n ≤ n.tdiv p) := by
  constructor
  · intro h
    exact ⟨Int.tdiv_nonneg h (by omega), Int.tdiv_le_self _ h⟩
  · intro h
    have e : n.tdiv p = -((-n).tdiv p) := by rw [Int.neg_tdiv]; omega
    have h1 := Int.tdiv_nonneg (a := -n) (b := p) (by omega) (by omega)
    have h2 := Int.tdiv_le_self (a := -n) p (by omega)
    omega
theorem halves_bounds (n k : Int) : (0 ≤ n → 0 ≤ halvesV n k ∧ halvesV n k ≤ n) ∧ (n < 0 → halvesV n k ≤ 0 ∧ n ≤ halvesV n k) := by
  unfold halvesV
  split
  · omega
  · split
    · omega
    · have hp : (1 : Int) ≤ 2 ^ k.toNat := by
        have : (0 : Int) < 2 ^ k.toNat := Int.pow_pos (by omega)
        omega
      exact tdiv_bounds n _ hp
theorem halves_in (n k : Int) (h : inI n) : inI (halvesV n k) := by
  have := halves_bounds n k
  unfold inI at *
  omega
theorem tdiv_tdiv_nn {n p q : Int} (hp : 0 ≤ p) (hn : 0 ≤ n) : (n.tdiv p).tdiv q = n.tdiv (p * q) := by
  rw [Int.tdiv_eq_ediv_of_nonneg hn, Int.tdiv_eq_ediv_of_nonneg hn, Int.tdiv_eq_ediv_of_nonneg (Int.ediv_nonneg hn hp), Int.ediv_ediv_of_nonneg hp]
theorem tdiv_tdiv_pos {n p q : Int} (hp : 0 ≤ p) : (n.tdiv p).tdiv q = n.tdiv (p * q) := by
  rcases Int.lt_or_le n 0 with h | h
  · have := tdiv_tdiv_nn (q := q) hp (n := -n) (by omega)
    rw [Int.neg_tdiv, Int.neg_tdiv, Int.neg_tdiv] at this
    omega
  · exact tdiv_tdiv_nn hp h
theorem law_halves (n : Int) (k j : Nat) (h : k + j ≤ 62) : halvesV (halvesV n k) j = halvesV n ((k : Int) + j) := by
  rcases Nat.eq_zero_or_pos k with rfl | hk
  · have e : halvesV n ((0 : Nat) : Int) = n := by unfold halvesV; rw [if_pos (by omega)]
    rw [e]; simp
  · rcases Nat.eq_zero_or_pos j with rfl | hj
    · have e : ∀ m, halvesV m ((0 : Nat) : Int) = m := fun m => by unfold halvesV; rw [if_pos (by omega)]
      rw [e]; simp
    · unfold halvesV
      rw [if_neg (by omega), if_neg (by omega), if_neg (by omega), if_neg (by omega), if_neg (by omega), if_neg (by omega)]
      rw [tdiv_tdiv_pos (Int.pow_nonneg (by omega))]
      rw [show ((k : Int) + j).toNat = k + j by omega, Int.pow_add]
      rfl
theorem law_back_mul {a b : Int} (h : fits (a * b) = true) (hb : b ≠ 0) : (okV (a * b)).tdiv b = a ∧ (okV (a * b)).tmod b = 0 := by
  have e : okV (a * b) = a * b := by unfold okV; rw [h]; rfl
  rw [e]
  exact ⟨Int.mul_tdiv_cancel _ hb, Int.mul_tmod_left _ _⟩
end Go.Proofs.Ytmilcgfcmeahgaa

/- Safe: the walks of Add, Sub, Clamp, Most, Sum, Int32 of both sides. -/
set_option linter.unusedVariables false
namespace Go.Proofs.Ytmilcgfcmeahgaa
open Go.RowKit

theorem ret_two {k j : IntKind} {a b c d : Int} (h1 : a = b) (h2 : c = d) : Ending.returned (.tuple #[.int k a, .int j c]) = .returned (.tuple #[.int k b, .int j d]) := by rw [h1, h2]
theorem ret_i {k : IntKind} {a b : Int} (h : a = b) : Ending.returned (.int k a) = .returned (.int k b) := by rw [h]

/-! ### the sign of an and, an xor -/
theorem wrap_toInt (x : BitVec 64) : IntKind.i64.wrap (x.toNat : Int) = x.toInt := by
  rw [IntKind.wrap_i64, BitVec.toInt_eq_toNat_cond]
  have := x.isLt
  split <;> omega
theorem wrap_neg_iff (x : BitVec 64) : IntKind.i64.wrap (x.toNat : Int) < 0 ↔ x.msb = true := by
  rw [wrap_toInt, BitVec.msb_eq_toInt, decide_eq_true_iff]
theorem ofInt_msb {a : Int} (h : inI a) : (BitVec.ofInt 64 a).msb = decide (a < 0) := by
  unfold inI at h
  rw [BitVec.msb_eq_toInt, BitVec.toInt_ofInt]
  congr 1
  rw [Int.bmod_eq_of_le (by omega) (by omega)]
theorem xor_neg {a b : Int} (ha : inI a) (hb : inI b) : bits .xor .i64 a b < 0 ↔ ¬ (a < 0 ↔ b < 0) := by
  show IntKind.i64.wrap ((BitVec.ofInt 64 a ^^^ BitVec.ofInt 64 b).toNat : Int) < 0 ↔ _
  rw [wrap_neg_iff, BitVec.msb_xor, ofInt_msb ha, ofInt_msb hb]
  by_cases h1 : a < 0 <;> by_cases h2 : b < 0 <;> simp [h1, h2]
theorem wrap_in (x : Int) : inI (IntKind.i64.wrap x) := by unfold inI; rw [IntKind.wrap_i64]; omega
theorem xor_in (a b : Int) : inI (bits .xor .i64 a b) := wrap_in _
theorem and_neg {a b : Int} (ha : inI a) (hb : inI b) : bits .and .i64 a b < 0 ↔ (a < 0 ∧ b < 0) := by
  show IntKind.i64.wrap ((BitVec.ofInt 64 a &&& BitVec.ofInt 64 b).toNat : Int) < 0 ↔ _
  rw [wrap_neg_iff, BitVec.msb_and, ofInt_msb ha, ofInt_msb hb]
  by_cases h1 : a < 0 <;> by_cases h2 : b < 0 <;> simp [h1, h2]
theorem add_test {a b : Int} (ha : inI a) (hb : inI b) : bits .and .i64 (bits .xor .i64 a (IntKind.i64.wrap (a + b))) (bits .xor .i64 b (IntKind.i64.wrap (a + b))) < 0 ↔ fits (a + b) = false := by
  rw [and_neg (xor_in _ _) (xor_in _ _), xor_neg ha (wrap_in _), xor_neg hb (wrap_in _), IntKind.wrap_i64, ← Bool.not_eq_true, fits_iff]
  unfold inI at ha hb
  omega
theorem sub_test {a b : Int} (ha : inI a) (hb : inI b) : bits .and .i64 (bits .xor .i64 a b) (bits .xor .i64 a (IntKind.i64.wrap (a - b))) < 0 ↔ fits (a - b) = false := by
  rw [and_neg (xor_in _ _) (xor_in _ _), xor_neg ha (wrap_in _), xor_neg ha hb, IntKind.wrap_i64, ← Bool.not_eq_true, fits_iff]
  unfold inI at ha hb
  omega
theorem okV_yes {x : Int} (h : fits x = true) : okV x = x := by unfold okV; rw [h]; rfl
theorem okV_no {x : Int} (h : fits x = false) : okV x = 0 := by unfold okV; rw [h]; rfl
theorem okE_yes {x : Int} (h : fits x = true) : okE x = 0 := by unfold okE; rw [h]; rfl
theorem okE_no {x : Int} (h : fits x = false) : okE x = 5 := by unfold okE; rw [h]; rfl

theorem add_c (a b : Int) (ha : inI a) (hb : inI b) (w : World) : Calls Try.prog 28 #[.int .i64 a, .int .i64 b] w fun e w' => e = .returned (.tuple #[.int .i64 (okV (a + b)), .int .i64 (okE (a + b))]) ∧ w = w' := by
  have ht := add_test ha hb
  obtain ⟨c, hc⟩ : ∃ c, c = IntKind.i64.wrap (a + b) := ⟨_, rfl⟩
  have hcc := hc.symm
  rw [hcc] at ht
  cases h : fits (a + b)
  · have h1 := ht.2 h
    rw [okV_no h, okE_no h]
    clear ht h hc ha hb
    go_enter Try.func28, Try.ntmps28
    go_wp2
    go_ret2
    exact ⟨rfl, rfl⟩
  · have h1 : ¬ bits .and .i64 (bits .xor .i64 a c) (bits .xor .i64 b c) < 0 := fun h2 => by rw [ht.1 h2] at h; cases h
    have e : c = a + b := by rw [hc, IntKind.wrap_i64]; rw [fits_iff] at h; omega
    rw [okV_yes h, okE_yes h, ← e]
    clear ht h hc ha hb e
    go_enter Try.func28, Try.ntmps28
    go_wp2
    go_ret2
    exact ⟨rfl, rfl⟩
end Go.Proofs.Ytmilcgfcmeahgaa

/- Safe: the walks of Clamp, Most, Int32, Halves, size, Mul64, Mul, Of. -/
set_option linter.unusedVariables false
namespace Go.Proofs.Ytmilcgfcmeahgaa
open Go.RowKit

theorem clamp_c (a lo hi : Int) (w : World) : Calls Try.prog 21 #[.int .i64 a, .int .i64 lo, .int .i64 hi] w fun e w' => e = .returned (.int .i64 (clampV a lo hi)) ∧ w = w' := by
  by_cases h1 : a < lo
  · have e : clampV a lo hi = lo := by unfold clampV; rw [if_pos h1]
    rw [e]; clear e
    go_enter Try.func21, Try.ntmps21
    go_wp2; go_ret; exact ⟨rfl, rfl⟩
  · by_cases h2 : hi < a
    · have e : clampV a lo hi = hi := by unfold clampV; rw [if_neg h1, if_pos h2]
      rw [e]; clear e
      go_enter Try.func21, Try.ntmps21
      go_wp2; go_ret; exact ⟨rfl, rfl⟩
    · have e : clampV a lo hi = a := by unfold clampV; rw [if_neg h1, if_neg h2]
      rw [e]; clear e
      go_enter Try.func21, Try.ntmps21
      go_wp2; go_ret; exact ⟨rfl, rfl⟩
theorem most_c (a b : Int) (ha : inI a) (hb : inI b) (w : World) : Calls Try.prog 23 #[.int .i64 a, .int .i64 b] w fun e w' => e = .returned (.int .i64 (mostV (a + b))) ∧ w = w' := by
  have hc := add_c a b ha hb
  unfold inI at ha hb
  cases h : fits (a + b)
  · rw [okV_no h, okE_no h] at hc
    rw [← Bool.not_eq_true, fits_iff] at h
    have HC := Lib.hid hc
    by_cases h2 : 0 < a
    · have e : mostV (a + b) = 9223372036854775807 := by unfold mostV; rw [if_neg (by omega), if_pos (by omega)]
      rw [e]; clear e hc h ha hb
      go_enter Try.func23, Try.ntmps23
      go_wp2_with fail
      refine (HC.out _).mono ?_
      rintro e w' ⟨rfl, rfl⟩
      go_wp2; go_ret; exact ⟨rfl, rfl⟩
    · have e : mostV (a + b) = -9223372036854775808 := by unfold mostV; rw [if_pos (by omega)]
      rw [e]; clear e hc h ha hb
      go_enter Try.func23, Try.ntmps23
      go_wp2_with fail
      refine (HC.out _).mono ?_
      rintro e w' ⟨rfl, rfl⟩
      go_wp2; go_ret; exact ⟨rfl, rfl⟩
  · rw [okV_yes h, okE_yes h] at hc
    rw [fits_iff] at h
    have HC := Lib.hid hc
    have e : mostV (a + b) = a + b := by unfold mostV; rw [if_neg (by omega), if_neg (by omega)]
    rw [e]; clear e hc
    go_enter Try.func23, Try.ntmps23
    go_wp2_with fail
    refine (HC.out _).mono ?_
    rintro e w' ⟨rfl, rfl⟩
    go_wp2; go_ret; exact ⟨rfl, rfl⟩
/-! ### Int32 -/
theorem wrap_i32 (n : Int) (h0 : -2147483648 ≤ n) (h1 : n ≤ 2147483647) : IntKind.i32.wrap n = n := by simp [IntKind.wrap, IntKind.bits, IntKind.signed]; omega
theorem wrap_i32_in (n : Int) : -2147483648 ≤ IntKind.i32.wrap n ∧ IntKind.i32.wrap n ≤ 2147483647 := by simp [IntKind.wrap, IntKind.bits, IntKind.signed]; omega
/-! ### size -/
theorem size_c (n : Int) (hn : inI n) (w : World) : Calls Try.prog 27 #[.int .i64 n] w fun e w' => e = .returned (.int .u64 (n.natAbs : Nat)) ∧ w = w' := by
  unfold inI at hn
  by_cases h : n < 0
  · have e1 : IntKind.u64.wrap n = n + 18446744073709551616 := by rw [IntKind.wrap_u64]; omega
    have e2 : IntKind.u64.wrap (-(n + 18446744073709551616)) = (n.natAbs : Int) := by rw [IntKind.wrap_u64]; omega
    go_enter Try.func27, Try.ntmps27
    go_wp2
    go_ret
    exact ⟨ret_i (by first | rfl | (rw [e1, e2]) | (rw [IntKind.wrap_u64]; omega)), rfl⟩
  · have e1 : IntKind.u64.wrap n = n := by rw [IntKind.wrap_u64]; omega
    go_enter Try.func27, Try.ntmps27
    go_wp2
    go_ret
    exact ⟨ret_i (by omega), rfl⟩
end Go.Proofs.Ytmilcgfcmeahgaa

/- Safe: the walks of Mul64, Mul, Of. -/
set_option linter.unusedVariables false
namespace Go.Proofs.Ytmilcgfcmeahgaa
open Go.RowKit

theorem mul_parts (x y x0 x1 y0 y1 : Nat) (hx : x = x1 * 4294967296 + x0) (hy : y = y1 * 4294967296 + y0) : x * y = x1 * y1 * 18446744073709551616 + (x1 * y0 + x0 * y1) * 4294967296 + x0 * y0 := by
  subst hx hy; grind
theorem mul_le32 {a b : Nat} (ha : a < 4294967296) (hb : b < 4294967296) : a * b ≤ 18446744065119617025 := by
  have := Nat.mul_le_mul (show a ≤ 4294967295 by omega) (show b ≤ 4294967295 by omega)
  omega
theorem wrapN {a : Nat} (h : a < 18446744073709551616) : IntKind.u64.wrap (a : Int) = (a : Int) := by rw [IntKind.wrap_u64]; omega
theorem mask32 (x : Nat) (hx : x < 18446744073709551616) : bits .and .u64 (x : Int) 4294967295 = ((x % 4294967296 : Nat) : Int) := by
  have := u64_and_nat x 4294967295 hx (by decide)
  rw [Nat.and_two_pow_sub_one_eq_mod x 32] at this
  exact this
theorem mul64_c (x y : Nat) (hx : x < 18446744073709551616) (hy : y < 18446744073709551616) (w : World) :
    Calls Try.prog 26 #[.int .u64 (x : Nat), .int .u64 (y : Nat)] w fun e w' => e = .returned (.tuple #[.int .u64 ((x * y / 18446744073709551616 : Nat) : Int), .int .u64 ((x * y % 18446744073709551616 : Nat) : Int)]) ∧ w = w' := by
  have mx := mask32 x hx
  have my := mask32 y hy
  obtain ⟨x0, hx0⟩ : ∃ x0, x0 = x % 4294967296 := ⟨_, rfl⟩
  obtain ⟨x1, hx1⟩ : ∃ x1, x1 = x / 4294967296 := ⟨_, rfl⟩
  obtain ⟨y0, hy0⟩ : ∃ y0, y0 = y % 4294967296 := ⟨_, rfl⟩
  obtain ⟨y1, hy1⟩ : ∃ y1, y1 = y / 4294967296 := ⟨_, rfl⟩
  rw [← hx0] at mx
  rw [← hy0] at my
  have dx : (x : Int) / 4294967296 = (x1 : Int) := by omega
  have dy : (y : Int) / 4294967296 = (y1 : Int) := by omega
  have key := mul_parts x y x0 x1 y0 y1 (by omega) (by omega)
  have b1 := mul_le32 (a := x0) (b := y0) (by omega) (by omega)
  have b2 := mul_le32 (a := x1) (b := y0) (by omega) (by omega)
  have b3 := mul_le32 (a := x0) (b := y1) (by omega) (by omega)
  have b4 := mul_le32 (a := x1) (b := y1) (by omega) (by omega)
  have p1 : IntKind.u64.wrap ((x0 : Int) * (y0 : Int)) = ((x0 * y0 : Nat) : Int) := by rw [← Int.natCast_mul]; exact wrapN (by omega)
  have p2 : IntKind.u64.wrap ((x1 : Int) * (y0 : Int)) = ((x1 * y0 : Nat) : Int) := by rw [← Int.natCast_mul]; exact wrapN (by omega)
  have p3 : IntKind.u64.wrap ((x0 : Int) * (y1 : Int)) = ((x0 * y1 : Nat) : Int) := by rw [← Int.natCast_mul]; exact wrapN (by omega)
  have p4 : IntKind.u64.wrap ((x1 : Int) * (y1 : Int)) = ((x1 * y1 : Nat) : Int) := by rw [← Int.natCast_mul]; exact wrapN (by omega)
  have p5 : IntKind.u64.wrap ((x : Int) * (y : Int)) = ((x * y % 18446744073709551616 : Nat) : Int) := by rw [← Int.natCast_mul, IntKind.wrap_u64]; omega
  generalize x0 * y0 = a at *
  generalize x1 * y0 = b at *
  generalize x0 * y1 = c at *
  generalize x1 * y1 = d at *
  generalize x * y = P at *
  obtain ⟨a1, ha1⟩ : ∃ a1, a1 = a / 4294967296 := ⟨_, rfl⟩
  have q1 : (a : Int) / 4294967296 = (a1 : Int) := by omega
  obtain ⟨t, ht⟩ : ∃ t, t = b + a1 := ⟨_, rfl⟩
  have q2 : IntKind.u64.wrap ((b : Int) + (a1 : Int)) = (t : Int) := by rw [IntKind.wrap_u64]; omega
  obtain ⟨t1, ht1⟩ : ∃ t1, t1 = t / 4294967296 := ⟨_, rfl⟩
  have q3 : (t : Int) / 4294967296 = (t1 : Int) := by omega
  have q4 := mask32 t (by omega)
  obtain ⟨t0, ht0⟩ : ∃ t0, t0 = t % 4294967296 := ⟨_, rfl⟩
  rw [← ht0] at q4
  obtain ⟨u, hu⟩ : ∃ u, u = t0 + c := ⟨_, rfl⟩
  have q5 : IntKind.u64.wrap ((t0 : Int) + (c : Int)) = (u : Int) := by rw [IntKind.wrap_u64]; omega
  obtain ⟨u1, hu1⟩ : ∃ u1, u1 = u / 4294967296 := ⟨_, rfl⟩
  have q6 : (u : Int) / 4294967296 = (u1 : Int) := by omega
  obtain ⟨v, hv⟩ : ∃ v, v = d + t1 := ⟨_, rfl⟩
  have q7 : IntKind.u64.wrap ((d : Int) + (t1 : Int)) = (v : Int) := by rw [IntKind.wrap_u64]; omega
  have q8 : IntKind.u64.wrap ((v : Int) + (u1 : Int)) = ((P / 18446744073709551616 : Nat) : Int) := by rw [IntKind.wrap_u64]; omega
  generalize P / 18446744073709551616 = H at *
  generalize P % 18446744073709551616 = L at *
  clear hx0 hx1 hy0 hy1 key ha1 ht ht1 ht0 hu hu1 hv b1 b2 b3 b4
  go_enter Try.func26, Try.ntmps26
  go_wp2
  go_ret2
  exact ⟨rfl, rfl⟩

/-! ### Mul -/
theorem mul_yes {a b : Int} (h : ¬ (a < 0 ↔ b < 0)) : a * b ≤ 0 := by
  rcases Int.lt_or_le a 0 with h1 | h1
  · exact Int.mul_nonpos_of_nonpos_of_nonneg (by omega) (by omega)
  · exact Int.mul_nonpos_of_nonneg_of_nonpos h1 (by omega)
theorem mul_no {a b : Int} (h : (a < 0 ↔ b < 0)) : 0 ≤ a * b := by
  rcases Int.lt_or_le a 0 with h1 | h1
  · exact Int.mul_nonneg_of_nonpos_of_nonpos (by omega) (by omega)
  · exact Int.mul_nonneg h1 (by omega)
theorem natAbs_le {a : Int} (h : inI a) : a.natAbs < 18446744073709551616 := by unfold inI at h; omega
theorem mul_w1 (a b : Int) (H L : Nat) (hs : (decide (a < 0) == decide (b < 0)) = true) (HS1 : Hid (∀ w, Calls Try.prog 27 #[.int .i64 a] w fun e w' => e = .returned (.int .u64 (a.natAbs : Nat)) ∧ w = w')) (HS2 : Hid (∀ w, Calls Try.prog 27 #[.int .i64 b] w fun e w' => e = .returned (.int .u64 (b.natAbs : Nat)) ∧ w = w'))
    (HM : Hid (∀ w, Calls Try.prog 26 #[.int .u64 (a.natAbs : Nat), .int .u64 (b.natAbs : Nat)] w fun e w' => e = .returned (.tuple #[.int .u64 (H : Nat), .int .u64 (L : Nat)]) ∧ w = w')) (hH : ((H : Int) != 0) = true) (w : World) :
    Calls Try.prog 22 #[.int .i64 a, .int .i64 b] w fun e w' => e = .returned (.tuple #[.int .i64 0, .int .i64 5]) ∧ w = w' := by
  go_enter Try.func22, Try.ntmps22
  go_wp2_with fail
  refine (HS1.out _).mono ?_
  rintro e w' ⟨rfl, rfl⟩
  go_wp2_with fail
  refine (HS2.out _).mono ?_
  rintro e w' ⟨rfl, rfl⟩
  go_wp2_with fail
  refine (HM.out _).mono ?_
  rintro e w' ⟨rfl, rfl⟩
  go_wp2
  go_ret2
  exact ⟨rfl, rfl⟩
theorem mul_w2 (a b : Int) (L : Nat) (hs : (decide (a < 0) == decide (b < 0)) = true) (HS1 : Hid (∀ w, Calls Try.prog 27 #[.int .i64 a] w fun e w' => e = .returned (.int .u64 (a.natAbs : Nat)) ∧ w = w')) (HS2 : Hid (∀ w, Calls Try.prog 27 #[.int .i64 b] w fun e w' => e = .returned (.int .u64 (b.natAbs : Nat)) ∧ w = w'))
    (HM : Hid (∀ w, Calls Try.prog 26 #[.int .u64 (a.natAbs : Nat), .int .u64 (b.natAbs : Nat)] w fun e w' => e = .returned (.tuple #[.int .u64 ((0 : Nat) : Nat), .int .u64 (L : Nat)]) ∧ w = w')) (hL : 9223372036854775807 < (L : Int)) (w : World) :
    Calls Try.prog 22 #[.int .i64 a, .int .i64 b] w fun e w' => e = .returned (.tuple #[.int .i64 0, .int .i64 5]) ∧ w = w' := by
  have e0 : ((0 : Nat) : Int) = 0 := rfl
  rw [e0] at HM
  go_enter Try.func22, Try.ntmps22
  go_wp2_with fail
  refine (HS1.out _).mono ?_
  rintro e w' ⟨rfl, rfl⟩
  go_wp2_with fail
  refine (HS2.out _).mono ?_
  rintro e w' ⟨rfl, rfl⟩
  go_wp2_with fail
  refine (HM.out _).mono ?_
  rintro e w' ⟨rfl, rfl⟩
  go_wp2
  go_ret2
  exact ⟨rfl, rfl⟩
theorem mul_w3 (a b : Int) (L : Nat) (hs : (decide (a < 0) == decide (b < 0)) = true) (HS1 : Hid (∀ w, Calls Try.prog 27 #[.int .i64 a] w fun e w' => e = .returned (.int .u64 (a.natAbs : Nat)) ∧ w = w')) (HS2 : Hid (∀ w, Calls Try.prog 27 #[.int .i64 b] w fun e w' => e = .returned (.int .u64 (b.natAbs : Nat)) ∧ w = w'))
    (HM : Hid (∀ w, Calls Try.prog 26 #[.int .u64 (a.natAbs : Nat), .int .u64 (b.natAbs : Nat)] w fun e w' => e = .returned (.tuple #[.int .u64 ((0 : Nat) : Nat), .int .u64 (L : Nat)]) ∧ w = w')) (hL : (L : Int) ≤ 9223372036854775807) (w : World) :
    Calls Try.prog 22 #[.int .i64 a, .int .i64 b] w fun e w' => e = .returned (.tuple #[.int .i64 (L : Nat), .int .i64 0]) ∧ w = w' := by
  have e0 : ((0 : Nat) : Int) = 0 := rfl
  rw [e0] at HM
  go_enter Try.func22, Try.ntmps22
  go_wp2_with fail
  refine (HS1.out _).mono ?_
  rintro e w' ⟨rfl, rfl⟩
  go_wp2_with fail
  refine (HS2.out _).mono ?_
  rintro e w' ⟨rfl, rfl⟩
  go_wp2_with fail
  refine (HM.out _).mono ?_
  rintro e w' ⟨rfl, rfl⟩
  go_wp2
  go_ret2
  exact ⟨rfl, rfl⟩
theorem mul_w4 (a b : Int) (H L : Nat) (hs : (decide (a < 0) == decide (b < 0)) = false) (HS1 : Hid (∀ w, Calls Try.prog 27 #[.int .i64 a] w fun e w' => e = .returned (.int .u64 (a.natAbs : Nat)) ∧ w = w')) (HS2 : Hid (∀ w, Calls Try.prog 27 #[.int .i64 b] w fun e w' => e = .returned (.int .u64 (b.natAbs : Nat)) ∧ w = w'))
    (HM : Hid (∀ w, Calls Try.prog 26 #[.int .u64 (a.natAbs : Nat), .int .u64 (b.natAbs : Nat)] w fun e w' => e = .returned (.tuple #[.int .u64 (H : Nat), .int .u64 (L : Nat)]) ∧ w = w')) (hH : ((H : Int) != 0) = true) (w : World) :
    Calls Try.prog 22 #[.int .i64 a, .int .i64 b] w fun e w' => e = .returned (.tuple #[.int .i64 0, .int .i64 5]) ∧ w = w' := by
  go_enter Try.func22, Try.ntmps22
  go_wp2_with fail
  refine (HS1.out _).mono ?_
  rintro e w' ⟨rfl, rfl⟩
  go_wp2_with fail
  refine (HS2.out _).mono ?_
  rintro e w' ⟨rfl, rfl⟩
  go_wp2_with fail
  refine (HM.out _).mono ?_
  rintro e w' ⟨rfl, rfl⟩
  go_wp2
  go_ret2
  exact ⟨rfl, rfl⟩
theorem mul_w5 (a b : Int) (L : Nat) (hs : (decide (a < 0) == decide (b < 0)) = false) (HS1 : Hid (∀ w, Calls Try.prog 27 #[.int .i64 a] w fun e w' => e = .returned (.int .u64 (a.natAbs : Nat)) ∧ w = w')) (HS2 : Hid (∀ w, Calls Try.prog 27 #[.int .i64 b] w fun e w' => e = .returned (.int .u64 (b.natAbs : Nat)) ∧ w = w'))
    (HM : Hid (∀ w, Calls Try.prog 26 #[.int .u64 (a.natAbs : Nat), .int .u64 (b.natAbs : Nat)] w fun e w' => e = .returned (.tuple #[.int .u64 ((0 : Nat) : Nat), .int .u64 (L : Nat)]) ∧ w = w')) (hL : 9223372036854775808 < (L : Int)) (w : World) :
    Calls Try.prog 22 #[.int .i64 a, .int .i64 b] w fun e w' => e = .returned (.tuple #[.int .i64 0, .int .i64 5]) ∧ w = w' := by
  have e0 : ((0 : Nat) : Int) = 0 := rfl
  rw [e0] at HM
  go_enter Try.func22, Try.ntmps22
  go_wp2_with fail
  refine (HS1.out _).mono ?_
  rintro e w' ⟨rfl, rfl⟩
  go_wp2_with fail
  refine (HS2.out _).mono ?_
  rintro e w' ⟨rfl, rfl⟩
  go_wp2_with fail
  refine (HM.out _).mono ?_
  rintro e w' ⟨rfl, rfl⟩
  go_wp2
  go_ret2
  exact ⟨rfl, rfl⟩
theorem mul_w6 (a b : Int) (L : Nat) (hs : (decide (a < 0) == decide (b < 0)) = false) (HS1 : Hid (∀ w, Calls Try.prog 27 #[.int .i64 a] w fun e w' => e = .returned (.int .u64 (a.natAbs : Nat)) ∧ w = w')) (HS2 : Hid (∀ w, Calls Try.prog 27 #[.int .i64 b] w fun e w' => e = .returned (.int .u64 (b.natAbs : Nat)) ∧ w = w'))
    (HM : Hid (∀ w, Calls Try.prog 26 #[.int .u64 (a.natAbs : Nat), .int .u64 (b.natAbs : Nat)] w fun e w' => e = .returned (.tuple #[.int .u64 ((0 : Nat) : Nat), .int .u64 (L : Nat)]) ∧ w = w')) (hL : (L : Int) ≤ 9223372036854775808) (w : World) :
    Calls Try.prog 22 #[.int .i64 a, .int .i64 b] w fun e w' => e = .returned (.tuple #[.int .i64 (-(L : Int)), .int .i64 0]) ∧ w = w' := by
  have e0 : ((0 : Nat) : Int) = 0 := rfl
  rw [e0] at HM
  obtain ⟨y, hy⟩ : ∃ y, y = IntKind.u64.wrap (-(L : Int)) := ⟨_, rfl⟩
  have hy2 := hy.symm
  have hz : IntKind.i64.wrap y = -(L : Int) := by rw [hy, IntKind.wrap_u64, IntKind.wrap_i64]; omega
  clear hy
  go_enter Try.func22, Try.ntmps22
  go_wp2_with fail
  refine (HS1.out _).mono ?_
  rintro e w' ⟨rfl, rfl⟩
  go_wp2_with fail
  refine (HS2.out _).mono ?_
  rintro e w' ⟨rfl, rfl⟩
  go_wp2_with fail
  refine (HM.out _).mono ?_
  rintro e w' ⟨rfl, rfl⟩
  go_wp2
  go_ret2
  exact ⟨rfl, rfl⟩
theorem mul_c (a b : Int) (ha : inI a) (hb : inI b) (w : World) : Calls Try.prog 22 #[.int .i64 a, .int .i64 b] w fun e w' => e = .returned (.tuple #[.int .i64 (okV (a * b)), .int .i64 (okE (a * b))]) ∧ w = w' := by
  have HS1 := Lib.hid (size_c a ha)
  have HS2 := Lib.hid (size_c b hb)
  have hm := mul64_c a.natAbs b.natAbs (natAbs_le ha) (natAbs_le hb)
  rw [← Int.natAbs_mul] at hm
  obtain ⟨P, hP⟩ : ∃ P, P = (a * b).natAbs := ⟨_, rfl⟩
  rw [← hP] at hm
  obtain ⟨H, hH⟩ : ∃ H, H = P / 18446744073709551616 := ⟨_, rfl⟩
  obtain ⟨L, hL⟩ : ∃ L, L = P % 18446744073709551616 := ⟨_, rfl⟩
  rw [← hH, ← hL] at hm
  have HM := Lib.hid hm
  have hs1 := @mul_yes a b
  have hs2 := @mul_no a b
  obtain ⟨p, hp⟩ : ∃ p, p = a * b := ⟨_, rfl⟩
  rw [← hp] at hP hs1 hs2 ⊢
  have htest : (decide (a < 0) == decide (b < 0)) = decide (a < 0 ↔ b < 0) := by by_cases h1 : a < 0 <;> by_cases h2 : b < 0 <;> simp [h1, h2]
  by_cases hs : (a < 0 ↔ b < 0)
  · have hp0 := hs2 hs
    rw [decide_eq_true hs] at htest
    rcases Nat.eq_zero_or_pos H with e | e
    · subst e
      rcases Int.lt_or_le 9223372036854775807 (L : Int) with h | h
      · have hf : fits p = false := by rw [← Bool.not_eq_true, fits_iff]; omega
        rw [okV_no hf, okE_no hf]
        exact mul_w2 a b L htest HS1 HS2 HM h w
      · have hf : fits p = true := by rw [fits_iff]; omega
        rw [okV_yes hf, okE_yes hf, show p = (L : Int) by omega]
        exact mul_w3 a b L htest HS1 HS2 HM h w
    · have hf : fits p = false := by rw [← Bool.not_eq_true, fits_iff]; omega
      rw [okV_no hf, okE_no hf]
      exact mul_w1 a b H L htest HS1 HS2 HM (by simp; omega) w
  · have hp0 := hs1 hs
    rw [decide_eq_false hs] at htest
    rcases Nat.eq_zero_or_pos H with e | e
    · subst e
      rcases Int.lt_or_le 9223372036854775808 (L : Int) with h | h
      · have hf : fits p = false := by rw [← Bool.not_eq_true, fits_iff]; omega
        rw [okV_no hf, okE_no hf]
        exact mul_w5 a b L htest HS1 HS2 HM h w
      · have hf : fits p = true := by rw [fits_iff]; omega
        rw [okV_yes hf, okE_yes hf, show p = -(L : Int) by omega]
        exact mul_w6 a b L htest HS1 HS2 HM h w
    · have hf : fits p = false := by rw [← Bool.not_eq_true, fits_iff]; omega
      rw [okV_no hf, okE_no hf]
      exact mul_w4 a b H L htest HS1 HS2 HM (by simp; omega) w
end Go.Proofs.Ytmilcgfcmeahgaa

