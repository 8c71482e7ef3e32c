/- Safe: what the functions answer, in numbers; the plain laws. -/
namespace Go.Proofs.Ytflgnlpippjhcaa

def fits (x : Int) : Bool := decide (-9223372036854775808 ≤ x) && decide (x ≤ 9223372036854775807)
theorem fits_iff (x : Int) : fits x = true ↔ -9223372036854775808 ≤ x ∧ x ≤ 9223372036854775807 := by simp [fits]
def inI (x : Int) : Prop := -9223372036854775808 ≤ x ∧ x ≤ 9223372036854775807
/-- An answer, or refused. -/
def okV (x : Int) : Int := if fits x then x else 0
def okE (x : Int) : Int := if fits x then 0 else 5
theorem okV_in (x : Int) : inI (okV x) := by
  unfold okV inI
  cases h : fits x
  · simp
  · rw [fits_iff] at h; simpa using h
def mostV (x : Int) : Int := if x < -9223372036854775808 then -9223372036854775808 else if 9223372036854775807 < x then 9223372036854775807 else x
def shareX (a b : Int) : Int := a * 4294967296 / b
def ofX (s n : Int) : Int := s * n / 4294967296
def shareV (a b : Int) : Int := if b < 1 ∨ a < 0 then 0 else okV (shareX a b)
def shareE (a b : Int) : Int := if b < 1 ∨ a < 0 then 1 else okE (shareX a b)
def shofV (s n : Int) : Int := if s < 0 ∨ n < 0 then 0 else okV (ofX s n)
def shofE (s n : Int) : Int := if s < 0 ∨ n < 0 then 1 else okE (ofX s n)
def halvesV (n k : Int) : Int := if k < 1 then n else if 62 < k then 0 else n.tdiv (2 ^ k.toNat)
def clampV (a lo hi : Int) : Int := if a < lo then lo else if hi < a then hi else a
def int32V (n : Int) : Int := if n < -2147483648 ∨ 2147483647 < n then 0 else n
def int32E (n : Int) : Int := if n < -2147483648 ∨ 2147483647 < n then 5 else 0
/-- The sum, from the left, while it fits. -/
def sumF : Int → List Int → Option Int
  | n, [] => some n
  | n, x :: l => if fits (n + x) then sumF (n + x) l else none
def sumV (l : List Int) : Int := (sumF 0 l).getD 0
def sumE (l : List Int) : Int := if (sumF 0 l).isSome then 0 else 5

theorem shareX_nonneg {a b : Int} (ha : 0 ≤ a) (hb : 1 ≤ b) : 0 ≤ shareX a b := Int.ediv_nonneg (by omega) (by omega)
theorem law_part (p b : Int) (hp : 0 ≤ p) (hp2 : p < 2147483648) (hb : 1 ≤ b) (hb2 : b < 4294967296) :
    shareE p b = 0 ∧ shofE (shareV p b) b = 0 ∧ shofV (shareV p b) b ≤ p ∧ p - 1 ≤ shofV (shareV p b) b := by
  have h1 : shareX p b ≤ p * 4294967296 := by
    unfold shareX
    have := Int.ediv_le_self (a := p * 4294967296) b (by omega)
    exact this
  have h0 := shareX_nonneg hp hb
  have f1 : fits (shareX p b) = true := by rw [fits_iff]; omega
  have e1 : shareV p b = shareX p b := by unfold shareV okV; rw [if_neg (by omega), f1]; rfl
  have e2 : shareE p b = 0 := by unfold shareE okE; rw [if_neg (by omega), f1]; rfl
  have m1 : shareX p b * b ≤ p * 4294967296 := Int.ediv_mul_le _ (by omega)
  have m2 : p * 4294967296 < (shareX p b + 1) * b := by
    have := Int.lt_ediv_add_one_mul_self (p * 4294967296) (show 0 < b by omega)
    exact this
  have m3 : p * 4294967296 < shareX p b * b + b := by rw [Int.add_mul] at m2; omega
  have m4 : 0 ≤ shareX p b * b := Int.mul_nonneg h0 (by omega)
  generalize hm : shareX p b * b = m at *
  have e3 : ofX (shareX p b) b = m / 4294967296 := by unfold ofX; rw [hm]
  have f2 : fits (ofX (shareX p b) b) = true := by rw [fits_iff, e3]; omega
  rw [e1]
  have e4 : shofV (shareX p b) b = m / 4294967296 := by unfold shofV okV; rw [if_neg (by omega), f2, e3]; rfl
  refine ⟨e2, ?_, ?_, ?_⟩
  · unfold shofE okE; rw [if_neg (by omega), f2]; rfl
  · rw [e4]; omega
  · rw [e4]; omega

theorem tdiv_bounds (n p : Int) (hp : 1 ≤ p) : (0 ≤ n → 0 ≤ n.tdiv p ∧ n.tdiv p ≤ n) ∧ (n < 0 → n.tdiv p ≤ 0 ∧ n ≤ n.tdiv p) := by
  constructor
  · intro h
    exact ⟨Int.tdiv_nonneg h (by omega), Int.tdiv_le_self _ h⟩
  · intro h
    have e : n.tdiv p = -((-n).tdiv p) := by rw [Int.neg_tdiv]; omega
    have h1 := Int.tdiv_nonneg (a := -n) (b := p) (by omega) (by omega)
    have h2 := Int.tdiv_le_self (a := -n) p (by omega)
    omega
theorem halves_bounds (n k : Int) : (0 ≤ n → 0 ≤ halvesV n k ∧ halvesV n k ≤ n) ∧ (n < 0 → halvesV n k ≤ 0 ∧ n ≤ halvesV n k) := by
  unfold halvesV
  split
  · omega
  · split
    · omega
    · have hp : (1 : Int) ≤ 2 ^ k.toNat := by
        have : (0 : Int) < 2 ^ k.toNat := Int.pow_pos (by omega)
        omega
      exact tdiv_bounds n _ hp
theorem halves_in (n k : Int) (h : inI n) : inI (halvesV n k) := by
  have := halves_bounds n k
  unfold inI at *
  omega
theorem tdiv_tdiv_nn {n p q : Int} (hp : 0 ≤ p) (hn : 0 ≤ n) : (n.tdiv p).tdiv q = n.tdiv (p * q) := by
  rw [Int.tdiv_eq_ediv_of_nonneg hn, Int.tdiv_eq_ediv_of_nonneg hn, Int.tdiv_eq_ediv_of_nonneg (Int.ediv_nonneg hn hp), Int.ediv_ediv_of_nonneg hp]
theorem tdiv_tdiv_pos {n p q : Int} (hp : 0 ≤ p) : (n.tdiv p).tdiv q = n.tdiv (p * q) := by
  rcases Int.lt_or_le n 0 with h | h
  · have := tdiv_tdiv_nn (q := q) hp (n := -n) (by omega)
    rw [Int.neg_tdiv, Int.neg_tdiv, Int.neg_tdiv] at this
    omega
  · exact tdiv_tdiv_nn hp h
theorem law_halves (n : Int) (k j : Nat) (h : k + j ≤ 62) : halvesV (halvesV n k) j = halvesV n ((k : Int) + j) := by
  rcases Nat.eq_zero_or_pos k with rfl | hk
  · have e : halvesV n ((0 : Nat) : Int) = n := by unfold halvesV; rw [if_pos (by omega)]
    rw [e]; simp
  · rcases Nat.eq_zero_or_pos j with rfl | hj
    · have e : ∀ m, halvesV m ((0 : Nat) : Int) = m := fun m => by unfold halvesV; rw [if_pos (by omega)]
      rw [e]; simp
    · unfold halvesV
      rw [if_neg (by omega), if_neg (by omega), if_neg (by omega), if_neg (by omega), if_neg (by omega), if_neg (by omega)]
      rw [tdiv_tdiv_pos (Int.pow_nonneg (by omega))]
      rw [show ((k : Int) + j).toNat = k + j by omega, Int.pow_add]
      rfl
theorem law_back_mul {a b : Int} (h : fits (a * b) = true) (hb : b ≠ 0) : (okV (a * b)).tdiv b = a ∧ (okV (a * b)).tmod b = 0 := by
  have e : okV (a * b) = a * b := by unfold okV; rw [h]; rfl
  rw [e]
  exact ⟨Int.mul_tdiv_cancel _ hb, Int.mul_tmod_left _ _⟩
end Go.Proofs.Ytflgnlpippjhcaa
