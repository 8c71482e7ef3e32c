/- Safe: Div64. -/
import Derived.Test.YthoagfoekopioaaY6
set_option linter.unusedVariables false
namespace Go.Proofs.Ythoagfoekopioaa
open Go.RowKit

/-! ### one digit of a long division -/
theorem len_lt : ∀ (k x : Nat), k ≤ 64 → x < 2 ^ k → x < 2 ^ Lib.bitLen x
  | 0, x, _, h => by
    have : x = 0 := by simpa using h
    subst this
    exact Nat.lt_of_lt_of_le (by decide) (Nat.one_le_two_pow)
  | k + 1, x, hk, h => by
    rcases Nat.eq_zero_or_pos x with h0 | h0
    · subst h0; exact Nat.lt_of_lt_of_le (by decide) (Nat.one_le_two_pow)
    · have hx : x < 2 ^ 64 := Nat.lt_of_lt_of_le h (Nat.pow_le_pow_right (by decide) hk)
      rw [Lib.bitLen_half x (by omega) hx, Nat.add_comm, Nat.pow_succ]
      have := len_lt k (x / 2) (by omega) (by rw [Nat.pow_succ] at h; omega)
      omega
theorem len_ge (x : Nat) (h0 : 0 < x) (hx : x < 2 ^ 64) : 2 ^ (Lib.bitLen x - 1) ≤ x := by
  rcases Nat.lt_or_ge x (2 ^ (Lib.bitLen x - 1)) with h | h
  · have hl := Lib.bitLen_le x 64 (by omega) hx
    have h2 := Lib.bitLen_le x (Lib.bitLen x - 1) (by omega) h
    have h3 : Lib.bitLen x = 0 := by omega
    have h4 := len_lt 64 x (by omega) hx
    rw [h3] at h4
    omega
  · exact h
/-- The state of a digit's guess. -/
structure Dig (D y1 y0 U u q r : Nat) : Prop where
  hD : D = y1 * 4294967296 + y0
  hy0 : y0 < 4294967296
  hy1 : y1 < 4294967296
  hU : U < D
  hu : u < 4294967296
  hq : U = q * y1 + r
  ge : (U * 4294967296 + u) / D ≤ q
theorem dig_start {D y1 y0 U u : Nat} (hD : D = y1 * 4294967296 + y0) (hy0 : y0 < 4294967296) (hy1 : y1 < 4294967296) (h1 : 2147483648 ≤ y1) (hU : U < D) (hu : u < 4294967296) : Dig D y1 y0 U u (U / y1) (U % y1) := by
  refine ⟨hD, hy0, hy1, hU, hu, ?_, ?_⟩
  · rw [Nat.mul_comm]; exact (Nat.div_add_mod U y1).symm
  · have h2 : (U * 4294967296 + u) / D ≤ (U * 4294967296 + u) / (y1 * 4294967296) := Nat.div_le_div_left (by omega) (by omega)
    have h3 : (U * 4294967296 + u) / (y1 * 4294967296) = U / y1 := by
      rw [Nat.mul_comm y1, ← Nat.div_div_eq_div_mul]
      congr 1
      omega
    omega
theorem dig_small {D y1 y0 U u q r : Nat} (h : Dig D y1 y0 U u q r) : (U * 4294967296 + u) / D < 4294967296 := by
  rw [Nat.div_lt_iff_lt_mul (by have := h.hU; omega)]
  have := h.hU; have := h.hu
  omega
theorem dig_expand {D y1 y0 U u q r : Nat} (h : Dig D y1 y0 U u q r) : q * D + (r * 4294967296 + u) = (U * 4294967296 + u) + q * y0 := by
  rw [h.hD, h.hq]; grind
theorem lt_help {a b N R : Nat} (he : a + R = N + b) (h1 : R < b) : N < a := by omega
/-- Too great: one less. -/
theorem dig_down {D y1 y0 U u q r : Nat} (h : Dig D y1 y0 U u q r) (ht : 4294967296 ≤ q ∨ r * 4294967296 + u < q * y0) : 0 < q ∧ Dig D y1 y0 U u (q - 1) (r + y1) := by
  have hs := dig_small h
  have he := dig_expand h
  have hD0 : 0 < D := by have := h.hU; omega
  have hlt : (U * 4294967296 + u) / D < q := by
    rcases ht with h1 | h1
    · exact Nat.lt_of_lt_of_le hs h1
    · exact (Nat.div_lt_iff_lt_mul hD0).2 (lt_help he h1)
  have hq0 : 0 < q := Nat.lt_of_le_of_lt (Nat.zero_le _) hlt
  refine ⟨hq0, h.hD, h.hy0, h.hy1, h.hU, h.hu, ?_, Nat.le_sub_one_of_lt hlt⟩
  obtain ⟨p, rfl⟩ : ∃ p, q = p + 1 := ⟨q - 1, by omega⟩
  rw [h.hq, Nat.add_sub_cancel, Nat.add_mul]
  omega
/-- Right. -/
theorem dig_done {D y1 y0 U u q r : Nat} (h : Dig D y1 y0 U u q r) (ht : q * y0 ≤ r * 4294967296 + u) : q = (U * 4294967296 + u) / D := by
  have he := dig_expand h
  have hD0 : 0 < D := by have := h.hU; omega
  have : q ≤ (U * 4294967296 + u) / D := by rw [Nat.le_div_iff_mul_le hD0]; omega
  have := h.ge
  omega
theorem dig_break {D y1 y0 U u q r : Nat} (h : Dig D y1 y0 U u q r) (hr : 4294967296 ≤ r) (hq : q ≤ 4294967296) : q = (U * 4294967296 + u) / D := by
  refine dig_done h ?_
  have h1 : q * y0 ≤ 4294967296 * y0 := Nat.mul_le_mul_right _ hq
  have := h.hy0
  omega
theorem dig_first {D y1 y0 U u : Nat} (h1 : 2147483648 ≤ y1) (h : Dig D y1 y0 U u (U / y1) (U % y1)) : U / y1 ≤ 4294967297 := by
  have := h.hU; have := h.hD; have := h.hy0
  have h2 : U / y1 < 4294967298 := by rw [Nat.div_lt_iff_lt_mul (by omega)]; omega
  omega

set_option maxRecDepth 100000 in
set_option maxHeartbeats 4000000 in
theorem div_zero (lo y : Nat) (hy : 0 < y) (hlo : lo < 18446744073709551616) (hy2 : y < 18446744073709551616) (w : World) : Calls Try.prog 30 #[.int .u64 0, .int .u64 (lo : Nat), .int .u64 (y : Nat)] w fun e w' => (∃ r : Int, e = .returned (.tuple #[.int .u64 ((lo / y : Nat) : Int), .int .u64 r])) ∧ ∃ m, w' = w.drewN m := by
  have h1 : ((y : Int) == 0) = false := by simp; omega
  have h2 : decide ((y : Int) ≤ 0) = false := by simp; omega
  have h3 : ((y : Int) != 0) = true := by simp; omega
  have h4 : ¬ (y : Int) = 0 := by omega
  have h5 : (lo : Int).tdiv (y : Int) = ((lo / y : Nat) : Int) := by rw [Int.tdiv_eq_ediv_of_nonneg (by omega)]; exact (Int.natCast_ediv lo y).symm
  have h5' : (lo : Int) / (y : Int) = ((lo / y : Nat) : Int) := (Int.natCast_ediv lo y).symm
  have h6 : IntKind.u64.wrap ((lo / y : Nat) : Int) = ((lo / y : Nat) : Int) := wrapN (Nat.lt_of_le_of_lt (Nat.div_le_self _ _) hlo)
  generalize lo / y = q at *
  clear hy hlo hy2
  go_enter Try.func30, Try.ntmps30
  go_wp2_with fail
  go_quiet (fail)
  go_wp2
  go_ret2
  exact ⟨⟨_, rfl⟩, _, rfl⟩

theorem shift_facts (y : Nat) (h0 : 0 < y) (hy : y < 18446744073709551616) : ∃ s : Nat, s ≤ 63 ∧ ((64 : Int) - (Lib.bitLen ((y : Int).toNat) : Nat) = (s : Int)) ∧ 9223372036854775808 ≤ y * 2 ^ s ∧ y * 2 ^ s < 18446744073709551616 := by
  have hl := Lib.bitLen_le y 64 (by omega) hy
  have h1 := len_lt 64 y (by omega) hy
  have h2 := len_ge y h0 hy
  have h3 : Lib.bitLen y ≠ 0 := fun h => by rw [h] at h1; omega
  obtain ⟨b, hb⟩ : ∃ b, Lib.bitLen y = b + 1 := ⟨Lib.bitLen y - 1, by omega⟩
  refine ⟨64 - Lib.bitLen y, by omega, by rw [Int.toNat_natCast]; omega, ?_, ?_⟩
  · rw [hb, Nat.add_sub_cancel] at h2
    have := Nat.mul_le_mul_right (2 ^ (64 - Lib.bitLen y)) h2
    rw [← Nat.pow_add, hb, show b + (64 - (b + 1)) = 63 by omega] at this
    rw [hb]
    exact this
  · have := Nat.mul_lt_mul_of_pos_right h1 (Nat.two_pow_pos (64 - Lib.bitLen y))
    rw [← Nat.pow_add, show Lib.bitLen y + (64 - Lib.bitLen y) = 64 by omega] at this
    exact this
theorem digits_plain (Y U T R1 Q1 : Nat) (hU : U < Y) (hQ : Q1 = (U * 4294967296 + T / 4294967296) / Y) (hR : R1 = (U * 4294967296 + T / 4294967296) % Y) : (U * 18446744073709551616 + T) / Y = Q1 * 4294967296 + (R1 * 4294967296 + T % 4294967296) / Y := by
  have h1 := Nat.div_add_mod (U * 4294967296 + T / 4294967296) Y
  rw [← hQ, ← hR] at h1
  have h2 : U * 18446744073709551616 + T = (R1 * 4294967296 + T % 4294967296) + Y * (Q1 * 4294967296) := by
    have h3 := Nat.div_add_mod T 4294967296
    have h4 : Y * (Q1 * 4294967296) = Y * Q1 * 4294967296 := by grind
    rw [h4]
    generalize Y * Q1 = a at *
    omega
  rw [h2, Nat.add_mul_div_left _ _ (by omega), Nat.add_comm]
theorem shift_div (hi lo y s U T : Nat) (hy : 0 < y) (hs : s ≤ 63) (hU : U = hi * 2 ^ s + lo / 2 ^ (64 - s)) (hT : T = lo * 2 ^ s % 18446744073709551616) : (U * 18446744073709551616 + T) / (y * 2 ^ s) = (hi * 18446744073709551616 + lo) / y := by
  have e64 : 2 ^ (64 - s) * 2 ^ s = 18446744073709551616 := by rw [← Nat.pow_add, show 64 - s + s = 64 by omega]
  have h1 : lo * 2 ^ s / 18446744073709551616 = lo / 2 ^ (64 - s) := by rw [← e64, Nat.mul_div_mul_right _ _ (Nat.two_pow_pos s)]
  have h2 := Nat.div_add_mod (lo * 2 ^ s) 18446744073709551616
  rw [h1, ← hT] at h2
  have h3 : U * 18446744073709551616 + T = (hi * 18446744073709551616 + lo) * 2 ^ s := by
    rw [hU]
    have h4 : (hi * 2 ^ s + lo / 2 ^ (64 - s)) * 18446744073709551616 = hi * 2 ^ s * 18446744073709551616 + 18446744073709551616 * (lo / 2 ^ (64 - s)) := by grind
    have h5 : (hi * 18446744073709551616 + lo) * 2 ^ s = hi * 2 ^ s * 18446744073709551616 + lo * 2 ^ s := by grind
    rw [h4, h5, ← h2]
    generalize 18446744073709551616 * (lo / 2 ^ (64 - s)) = a
    generalize hi * 2 ^ s * 18446744073709551616 = b
    omega
  rw [h3, Nat.mul_div_mul_right _ _ (Nat.two_pow_pos s)]
theorem u_facts (hi lo y s : Nat) (hs : s ≤ 63) (hy : hi < y) (hlo : lo < 18446744073709551616) (hY2 : y * 2 ^ s < 18446744073709551616) : hi * 2 ^ s < 18446744073709551616 ∧ hi * 2 ^ s + lo / 2 ^ (64 - s) < y * 2 ^ s ∧ bits .or .u64 (IntKind.u64.wrap ((hi : Int) * 2 ^ s)) ((lo : Int) / 2 ^ (64 - s)) = ((hi * 2 ^ s + lo / 2 ^ (64 - s) : Nat) : Int) := by
  have e64 : 2 ^ s * 2 ^ (64 - s) = 18446744073709551616 := by rw [← Nat.pow_add, show s + (64 - s) = 64 by omega]
  have h1 : lo / 2 ^ (64 - s) < 2 ^ s := by rw [Nat.div_lt_iff_lt_mul (Nat.two_pow_pos _), e64]; exact hlo
  have h2 : (hi + 1) * 2 ^ s ≤ y * 2 ^ s := Nat.mul_le_mul_right _ hy
  rw [Nat.add_mul] at h2
  have h3 : hi * 2 ^ s < 18446744073709551616 := by omega
  refine ⟨h3, by omega, ?_⟩
  have w1 : IntKind.u64.wrap ((hi : Int) * 2 ^ s) = ((hi * 2 ^ s : Nat) : Int) := by
    rw [show (hi : Int) * 2 ^ s = ((hi * 2 ^ s : Nat) : Int) by simp]
    exact wrapN h3
  have w2 : (lo : Int) / 2 ^ (64 - s) = ((lo / 2 ^ (64 - s) : Nat) : Int) := by simp
  rw [w1, w2, u64_or_nat _ _ h3 (Nat.lt_of_le_of_lt (Nat.div_le_self _ _) hlo), nat_join s _ _ (by simp) h1]
/-- One round's test and what it leaves. -/
theorem dig_next {D y1 y0 U u q r : Nat} (h : Dig D y1 y0 U u q r) (hq : q ≤ 4294967297) (hr : r < 4294967296) (ht : 4294967296 ≤ q ∨ r * 4294967296 + u < q * y0) : 0 < q ∧ (4294967296 ≤ r + y1 → q - 1 = (U * 4294967296 + u) / D) ∧ Dig D y1 y0 U u (q - 1) (r + y1) := by
  obtain ⟨h1, h2⟩ := dig_down h ht
  exact ⟨h1, fun hb => dig_break h2 hb (by omega), h2⟩
set_option maxRecDepth 100000 in
set_option maxHeartbeats 16000000 in
theorem div_big (hi lo y : Nat) (hh : 0 < hi) (hy : hi < y) (hlo : lo < 18446744073709551616) (hy2 : y < 18446744073709551616) (w : World) : Calls Try.prog 30 #[.int .u64 (hi : Nat), .int .u64 (lo : Nat), .int .u64 (y : Nat)] w fun e w' => (∃ r : Int, e = .returned (.tuple #[.int .u64 (((hi * 18446744073709551616 + lo) / y : Nat) : Int), .int .u64 r])) ∧ w = w' := by
  obtain ⟨s, hs, hsb, hY1, hY2⟩ := shift_facts y (by omega) hy2
  have hlz := fun w => lz64_c (y : Int) w (by omega) (by omega)
  rw [hsb] at hlz
  have HLZ := Lib.hid hlz
  have d1 : decide ((y : Int) ≤ (hi : Int)) = false := decide_eq_false (by omega)
  have d2 : ((hi : Int) == 0) = false := by simp; omega
  have d3 : ((y : Int) == 0) = false := by simp; omega
  have ws : IntKind.u64.wrap (s : Int) = (s : Int) := by rw [IntKind.wrap_u64]; omega
  have hs' : (s : Int) ≤ 63 := by omega
  obtain ⟨hUa, hUb, hUc⟩ := u_facts hi lo y s hs hy hlo hY2
  have hfin := shift_div hi lo y s _ _ (by omega) hs rfl rfl
  have hqlt : (hi * 18446744073709551616 + lo) / y < 18446744073709551616 := by rw [Nat.div_lt_iff_lt_mul (by omega)]; have : (hi + 1) * 18446744073709551616 ≤ y * 18446744073709551616 := Nat.mul_le_mul_right _ hy; omega
  obtain ⟨Q, hQ⟩ : ∃ Q, Q = (hi * 18446744073709551616 + lo) / y := ⟨_, rfl⟩
  rw [← hQ] at hfin hqlt ⊢
  have w1 : IntKind.u64.wrap ((y : Int) * 2 ^ s) = ((y * 2 ^ s : Nat) : Int) := by
    rw [show (y : Int) * 2 ^ s = ((y * 2 ^ s : Nat) : Int) by simp]
    exact wrapN hY2
  have w2 : IntKind.u64.wrap ((lo : Int) * 2 ^ s) = ((lo * 2 ^ s % 18446744073709551616 : Nat) : Int) := by
    rw [show (lo : Int) * 2 ^ s = ((lo * 2 ^ s : Nat) : Int) by simp, IntKind.wrap_u64]; omega
  clear hlz hsb hs hh hlo hy2 hQ
  obtain ⟨Y, hYe⟩ : ∃ Y, Y = y * 2 ^ s := ⟨_, rfl⟩
  rw [← hYe] at hY1 hY2 hUb hfin w1
  obtain ⟨U, hUe⟩ : ∃ U, U = hi * 2 ^ s + lo / 2 ^ (64 - s) := ⟨_, rfl⟩
  rw [← hUe] at hUb hfin hUc
  obtain ⟨T, hTe⟩ : ∃ T, T = lo * 2 ^ s % 18446744073709551616 := ⟨_, rfl⟩
  rw [← hTe] at hfin w2
  have hT : T < 18446744073709551616 := by rw [hTe]; exact Nat.mod_lt _ (by decide)
  clear hUe hTe hYe hUa
  obtain ⟨y1, hy1⟩ : ∃ y1, y1 = Y / 4294967296 := ⟨_, rfl⟩
  obtain ⟨y0, hy0⟩ : ∃ y0, y0 = Y % 4294967296 := ⟨_, rfl⟩
  obtain ⟨u1, hu1⟩ : ∃ u1, u1 = T / 4294967296 := ⟨_, rfl⟩
  obtain ⟨u0, hu0⟩ : ∃ u0, u0 = T % 4294967296 := ⟨_, rfl⟩
  have m1 := mask32 Y hY2
  have m2 := mask32 T hT
  rw [← hy0] at m1
  rw [← hu0] at m2
  have v1 : (Y : Int) / 4294967296 = (y1 : Int) := by omega
  have v2 : (T : Int) / 4294967296 = (u1 : Int) := by omega
  have z1 : ((y1 : Int) == 0) = false := by simp; omega
  have z2 : ¬ (y1 : Int) = 0 := by omega
  have hyb : 2147483648 ≤ y1 := by omega
  have D1 := dig_start (D := Y) (y1 := y1) (y0 := y0) (U := U) (u := u1) (by omega) (by omega) (by omega) hyb hUb (by omega)
  have D1f := dig_first hyb D1
  have D1r : U % y1 < 4294967296 := by have := Nat.mod_lt U (show 0 < y1 by omega); omega
  have a1 : (U : Int).tdiv (y1 : Int) = ((U / y1 : Nat) : Int) := by rw [Int.tdiv_eq_ediv_of_nonneg (by omega)]; exact (Int.natCast_ediv U y1).symm
  have a1' : (U : Int) / (y1 : Int) = ((U / y1 : Nat) : Int) := (Int.natCast_ediv U y1).symm
  have a2 : IntKind.u64.wrap ((U / y1 : Nat) : Int) = ((U / y1 : Nat) : Int) := wrapN (by omega)
  have a3 : IntKind.u64.wrap (((U / y1 : Nat) : Int) * (y1 : Int)) = ((U / y1 * y1 : Nat) : Int) := by rw [← Int.natCast_mul]; exact wrapN (by have := Nat.div_mul_le_self U y1; omega)
  have a4 : IntKind.u64.wrap ((U : Int) - ((U / y1 * y1 : Nat) : Int)) = ((U % y1 : Nat) : Int) := by
    have := Nat.div_add_mod U y1
    rw [Nat.mul_comm] at this
    have h2 := Nat.mod_lt U (show 0 < y1 by omega)
    rw [IntKind.wrap_u64]; omega
  have hDP := digits_plain Y U T ((U * 4294967296 + T / 4294967296) % Y) ((U * 4294967296 + T / 4294967296) / Y) hUb rfl rfl
  rw [← hu1, ← hu0, hfin] at hDP
  obtain ⟨Q1, hQ1⟩ : ∃ Q1, Q1 = (U * 4294967296 + u1) / Y := ⟨_, rfl⟩
  obtain ⟨R1, hR1⟩ : ∃ R1, R1 = (U * 4294967296 + u1) % Y := ⟨_, rfl⟩
  rw [← hQ1, ← hR1] at hDP
  have hR1lt : R1 < Y := by rw [hR1]; exact Nat.mod_lt _ (by omega)
  have hQ1lt : Q1 < 4294967296 := by rw [hQ1]; exact dig_small D1
  have hQR : Q1 * Y + R1 = U * 4294967296 + u1 := by have := Nat.div_add_mod (U * 4294967296 + u1) Y; rw [← hQ1, ← hR1, Nat.mul_comm] at this; exact this
  have D2 := dig_start (D := Y) (y1 := y1) (y0 := y0) (U := R1) (u := u0) (by omega) (by omega) (by omega) hyb hR1lt (by omega)
  have D2f := dig_first hyb D2
  have D2r : R1 % y1 < 4294967296 := by have := Nat.mod_lt R1 (show 0 < y1 by omega); omega
  have b1 : (R1 : Int).tdiv (y1 : Int) = ((R1 / y1 : Nat) : Int) := by rw [Int.tdiv_eq_ediv_of_nonneg (by omega)]; exact (Int.natCast_ediv R1 y1).symm
  have b1' : (R1 : Int) / (y1 : Int) = ((R1 / y1 : Nat) : Int) := (Int.natCast_ediv R1 y1).symm
  have b2 : IntKind.u64.wrap ((R1 / y1 : Nat) : Int) = ((R1 / y1 : Nat) : Int) := wrapN (by omega)
  have b3 : IntKind.u64.wrap (((R1 / y1 : Nat) : Int) * (y1 : Int)) = ((R1 / y1 * y1 : Nat) : Int) := by rw [← Int.natCast_mul]; exact wrapN (by have := Nat.div_mul_le_self R1 y1; omega)
  have b4 : IntKind.u64.wrap ((R1 : Int) - ((R1 / y1 * y1 : Nat) : Int)) = ((R1 % y1 : Nat) : Int) := by
    have := Nat.div_add_mod R1 y1
    rw [Nat.mul_comm] at this
    have h2 := Nat.mod_lt R1 (show 0 < y1 by omega)
    rw [IntKind.wrap_u64]; omega
  obtain ⟨qy, hqy⟩ : ∃ qy, qy = Q1 * Y := ⟨_, rfl⟩
  obtain ⟨Un, hUn⟩ : ∃ Un, Un = U * 4294967296 % 18446744073709551616 := ⟨_, rfl⟩
  obtain ⟨Um, hUm⟩ : ∃ Um, Um = (U * 4294967296 + u1) % 18446744073709551616 := ⟨_, rfl⟩
  obtain ⟨qym, hqym⟩ : ∃ qym, qym = qy % 18446744073709551616 := ⟨_, rfl⟩
  obtain ⟨Q1B, hQ1B⟩ : ∃ Q1B, Q1B = Q1 * 4294967296 := ⟨_, rfl⟩
  have t1 : IntKind.u64.wrap ((U : Int) * 4294967296) = (Un : Int) := by rw [IntKind.wrap_u64]; omega
  have t2 : IntKind.u64.wrap ((Un : Int) + (u1 : Int)) = (Um : Int) := by rw [IntKind.wrap_u64]; omega
  have t3 : IntKind.u64.wrap ((Q1 : Int) * (Y : Int)) = (qym : Int) := by rw [← Int.natCast_mul, ← hqy, IntKind.wrap_u64]; omega
  have t4 : IntKind.u64.wrap ((Um : Int) - (qym : Int)) = (R1 : Int) := by rw [← hqy] at hQR; rw [IntKind.wrap_u64]; omega
  obtain ⟨Q0, hQ0⟩ : ∃ Q0, Q0 = (R1 * 4294967296 + u0) / Y := ⟨_, rfl⟩
  rw [← hQ0] at hDP
  have t5 : IntKind.u64.wrap ((Q1 : Int) * 4294967296) = (Q1B : Int) := by rw [IntKind.wrap_u64]; omega
  have t6 : IntKind.u64.wrap ((Q1B : Int) + (Q0 : Int)) = (Q : Int) := by rw [IntKind.wrap_u64]; omega
  have hu1b : u1 < 4294967296 := by omega
  have hu0b : u0 < 4294967296 := by omega
  have hy0b : y0 < 4294967296 := by omega
  have hy1b : y1 < 4294967296 := by omega
  generalize U / y1 = q1s at *
  generalize U % y1 = r1s at *
  generalize R1 / y1 = q2s at *
  generalize R1 % y1 = r2s at *
  generalize q1s * y1 = p1 at *
  generalize q2s * y1 = p2 at *
  have HD1 := Lib.hid D1
  have HD2 := Lib.hid D2
  have HQ1 := Lib.hid hQ1
  have HQ0 := Lib.hid hQ0
  have HB1 := Lib.hid (And.intro D1f D1r)
  have HB2 := Lib.hid (And.intro D2f D2r)
  have HY := Lib.hid (And.intro hyb (And.intro hu1b (And.intro hu0b (And.intro hy0b hy1b))))
  obtain ⟨hi', hhi⟩ : ∃ hi' : Int, hi' = hi := ⟨_, rfl⟩
  clear hUn hUm hqym hQ1B D1 D2 hQ1 hQ0 D1f D1r D2f D2r hyb hu1b hu0b hy0b hy1b hR1lt hQ1lt hQR hqy hDP hqlt hfin hUb hT hY1 hY2 hy1 hy0 hu1 hu0 hR1 hhi
  go_enter Try.func30, Try.ntmps30
  go_wp2_with fail
  refine (HLZ.out _).mono ?_
  rintro e w' ⟨rfl, rfl⟩
  clear HLZ d1 d2 d3 ws
  go_wp2_with fail
  go_loop [15, 16] (fun a b => ∃ q r : Nat, Hid (Dig Y y1 y0 U u1 q r) ∧ Hid (q ≤ 4294967297 ∧ r < 4294967296) ∧ a = .int .u64 (q : Nat) ∧ b = .int .u64 (r : Nat)) (fun a _ => (intOf a).toNat)
  case atStart => exact ⟨_, _, HD1, HB1, rfl, rfl⟩
  case round =>
    obtain ⟨q, r, hdig, hqr, rfl, rfl⟩ := hrel
    obtain ⟨hq, hr⟩ := hqr.out
    obtain ⟨h31, hu1b, hu0b, hy0b, hy1b⟩ := HY.out
    clear hqr
    obtain ⟨qi, hqi⟩ : ∃ qi : Int, qi = (q : Int) := ⟨_, rfl⟩
    obtain ⟨ri, hri⟩ : ∃ ri : Int, ri = (r : Int) := ⟨_, rfl⟩
    rw [← hqi, ← hri]
    obtain ⟨rn, hrn⟩ : ∃ rn, rn = r + y1 := ⟨_, rfl⟩
    obtain ⟨rni, hrni⟩ : ∃ rni : Int, rni = (rn : Int) := ⟨_, rfl⟩
    obtain ⟨qni, hqni⟩ : ∃ qni : Int, qni = qi - 1 := ⟨_, rfl⟩
    have n2 : IntKind.u64.wrap (ri + (y1 : Int)) = rni := by rw [IntKind.wrap_u64]; omega
    have hmul := Nat.mul_le_mul hq (show y0 ≤ 4294967295 by omega)
    by_cases c1 : 4294967296 ≤ qi
    · have hnext := dig_next hdig.out hq hr (.inl (by omega))
      have n1 : IntKind.u64.wrap (qi - 1) = qni := by rw [IntKind.wrap_u64]; omega
      have HN := Lib.hid hnext
      have HI := Lib.hid (And.intro hqi (And.intro hri (And.intro hrn (And.intro hrni hqni))))
      have HQR := Lib.hid (And.intro hq hr)
      by_cases c3 : 4294967296 ≤ rni
      · have hX : qni = (Q1 : Int) := by
          obtain ⟨e1, e2, e3, e4, e5⟩ := HI.out
          obtain ⟨k1, k2, k3⟩ := HN.out
          have := k2 (by omega)
          rw [← HQ1.out] at this
          omega
        have T3 : IntKind.u64.wrap (qni * (Y : Int)) = qym := by rw [hX]; exact t3
        have T5 : IntKind.u64.wrap (qni * 4294967296) = Q1B := by rw [hX]; exact t5
        clear hqi hri hrn hrni hqni hq hr hmul hnext h31 hu1b hu0b hy0b hy1b hX HI HN HQR
        go_wp2
        go_loop [16, 18] (fun b a => ∃ q r : Nat, Hid (Dig Y y1 y0 R1 u0 q r) ∧ Hid (q ≤ 4294967297 ∧ r < 4294967296) ∧ a = .int .u64 (q : Nat) ∧ b = .int .u64 (r : Nat)) (fun _ a => (intOf a).toNat)
        case atStart => exact ⟨_, _, HD2, HB2, rfl, rfl⟩
        case round =>
          obtain ⟨q, r, hdig, hqr, rfl, rfl⟩ := hrel
          obtain ⟨hq, hr⟩ := hqr.out
          obtain ⟨h31, hu1b, hu0b, hy0b, hy1b⟩ := HY.out
          clear hqr
          obtain ⟨qi, hqi⟩ : ∃ qi : Int, qi = (q : Int) := ⟨_, rfl⟩
          obtain ⟨ri, hri⟩ : ∃ ri : Int, ri = (r : Int) := ⟨_, rfl⟩
          rw [← hqi, ← hri]
          obtain ⟨rn, hrn⟩ : ∃ rn, rn = r + y1 := ⟨_, rfl⟩
          obtain ⟨rni, hrni⟩ : ∃ rni : Int, rni = (rn : Int) := ⟨_, rfl⟩
          obtain ⟨qni, hqni⟩ : ∃ qni : Int, qni = qi - 1 := ⟨_, rfl⟩
          have n2 : IntKind.u64.wrap (ri + (y1 : Int)) = rni := by rw [IntKind.wrap_u64]; omega
          have hmul := Nat.mul_le_mul hq (show y0 ≤ 4294967295 by omega)
          by_cases c1 : 4294967296 ≤ qi
          · have hnext := dig_next hdig.out hq hr (.inl (by omega))
            have n1 : IntKind.u64.wrap (qi - 1) = qni := by rw [IntKind.wrap_u64]; omega
            have HN := Lib.hid hnext
            have HI := Lib.hid (And.intro hqi (And.intro hri (And.intro hrn (And.intro hrni hqni))))
            have HQR := Lib.hid (And.intro hq hr)
            by_cases c3 : 4294967296 ≤ rni
            · have hX : qni = (Q0 : Int) := by
                obtain ⟨e1, e2, e3, e4, e5⟩ := HI.out
                obtain ⟨k1, k2, k3⟩ := HN.out
                have := k2 (by omega)
                rw [← HQ0.out] at this
                omega
              have T6 : IntKind.u64.wrap ((Q1B : Int) + qni) = (Q : Int) := by rw [hX]; exact t6
              clear hqi hri hrn hrni hqni hq hr hmul hnext h31 hu1b hu0b hy0b hy1b hX HI HN HQR
              go_wp2
              go_ret2
              exact ⟨⟨_, rfl⟩, rfl⟩
            · clear hqi hri hrn hrni hqni hq hr hmul hnext h31 hu1b hu0b hy0b hy1b
              go_wp2
              obtain ⟨e1, e2, e3, e4, e5⟩ := HI.out
              obtain ⟨k1, k2, k3⟩ := HN.out
              obtain ⟨l1, l2⟩ := HQR.out
              go_round
              case rel => exact ⟨q - 1, rn, Lib.hid (by rw [e3]; exact k3), Lib.hid (by omega), by rw [show qni = ((q - 1 : Nat) : Int) by omega], by rw [e4]⟩
              case measure => simp [intOf]; omega
          · have hq2 : q < 4294967296 := by omega
            have hm32 := Nat.mul_le_mul (show q ≤ 4294967295 by omega) (show y0 ≤ 4294967295 by omega)
            obtain ⟨m, hm⟩ : ∃ m, m = q * y0 := ⟨_, rfl⟩
            rw [← hm] at hm32
            obtain ⟨mi, hmi⟩ : ∃ mi : Int, mi = (m : Int) := ⟨_, rfl⟩
            obtain ⟨ki, hki⟩ : ∃ ki : Int, ki = 4294967296 * ri := ⟨_, rfl⟩
            obtain ⟨li, hli⟩ : ∃ li : Int, li = ki + (u0 : Int) := ⟨_, rfl⟩
            have g1 : IntKind.u64.wrap (qi * (y0 : Int)) = mi := by rw [hqi, ← Int.natCast_mul, ← hm, ← hmi, IntKind.wrap_u64]; omega
            have g2 : IntKind.u64.wrap (4294967296 * ri) = ki := by rw [IntKind.wrap_u64]; omega
            have g3 : IntKind.u64.wrap (ki + (u0 : Int)) = li := by rw [IntKind.wrap_u64]; omega
            have c1' : qi < 4294967296 := by omega
            clear c1
            by_cases c2 : li < mi
            · have hnext := dig_next hdig.out hq hr (.inr (by rw [← hm]; omega))
              clear hm32 hmi hki hli hm hq2
              have n1 : IntKind.u64.wrap (qi - 1) = qni := by rw [IntKind.wrap_u64]; omega
              have HN := Lib.hid hnext
              have HI := Lib.hid (And.intro hqi (And.intro hri (And.intro hrn (And.intro hrni hqni))))
              have HQR := Lib.hid (And.intro hq hr)
              by_cases c3 : 4294967296 ≤ rni
              · have hX : qni = (Q0 : Int) := by
                  obtain ⟨e1, e2, e3, e4, e5⟩ := HI.out
                  obtain ⟨k1, k2, k3⟩ := HN.out
                  have := k2 (by omega)
                  rw [← HQ0.out] at this
                  omega
                have T6 : IntKind.u64.wrap ((Q1B : Int) + qni) = (Q : Int) := by rw [hX]; exact t6
                clear hqi hri hrn hrni hqni hq hr hmul hnext h31 hu1b hu0b hy0b hy1b hX HI HN HQR
                go_wp2
                go_ret2
                exact ⟨⟨_, rfl⟩, rfl⟩
              · clear hqi hri hrn hrni hqni hq hr hmul hnext h31 hu1b hu0b hy0b hy1b
                go_wp2
                obtain ⟨e1, e2, e3, e4, e5⟩ := HI.out
                obtain ⟨k1, k2, k3⟩ := HN.out
                obtain ⟨l1, l2⟩ := HQR.out
                go_round
                case rel => exact ⟨q - 1, rn, Lib.hid (by rw [e3]; exact k3), Lib.hid (by omega), by rw [show qni = ((q - 1 : Nat) : Int) by omega], by rw [e4]⟩
                case measure => simp [intOf]; omega
            · have hX : qi = (Q0 : Int) := by
                have := dig_done hdig.out (by rw [← hm]; omega)
                rw [← HQ0.out] at this
                omega
              have n1 : True := trivial
              have HN : True := trivial
              have HI : True := trivial
              have HQR : True := trivial
              have hnext : True := trivial
              have c2' : mi ≤ li := by omega
              clear hm32 hmi hki hli hm hq2 c2
              have T6 : IntKind.u64.wrap ((Q1B : Int) + qi) = (Q : Int) := by rw [hX]; exact t6
              clear hqi hri hrn hrni hqni hq hr hmul hnext h31 hu1b hu0b hy0b hy1b hX HI HN HQR
              go_wp2
              go_ret2
              exact ⟨⟨_, rfl⟩, rfl⟩
      · clear hqi hri hrn hrni hqni hq hr hmul hnext h31 hu1b hu0b hy0b hy1b
        go_wp2
        obtain ⟨e1, e2, e3, e4, e5⟩ := HI.out
        obtain ⟨k1, k2, k3⟩ := HN.out
        obtain ⟨l1, l2⟩ := HQR.out
        go_round
        case rel => exact ⟨q - 1, rn, Lib.hid (by rw [e3]; exact k3), Lib.hid (by omega), by rw [show qni = ((q - 1 : Nat) : Int) by omega], by rw [e4]⟩
        case measure => simp [intOf]; omega
    · have hq2 : q < 4294967296 := by omega
      have hm32 := Nat.mul_le_mul (show q ≤ 4294967295 by omega) (show y0 ≤ 4294967295 by omega)
      obtain ⟨m, hm⟩ : ∃ m, m = q * y0 := ⟨_, rfl⟩
      rw [← hm] at hm32
      obtain ⟨mi, hmi⟩ : ∃ mi : Int, mi = (m : Int) := ⟨_, rfl⟩
      obtain ⟨ki, hki⟩ : ∃ ki : Int, ki = 4294967296 * ri := ⟨_, rfl⟩
      obtain ⟨li, hli⟩ : ∃ li : Int, li = ki + (u1 : Int) := ⟨_, rfl⟩
      have g1 : IntKind.u64.wrap (qi * (y0 : Int)) = mi := by rw [hqi, ← Int.natCast_mul, ← hm, ← hmi, IntKind.wrap_u64]; omega
      have g2 : IntKind.u64.wrap (4294967296 * ri) = ki := by rw [IntKind.wrap_u64]; omega
      have g3 : IntKind.u64.wrap (ki + (u1 : Int)) = li := by rw [IntKind.wrap_u64]; omega
      have c1' : qi < 4294967296 := by omega
      clear c1
      by_cases c2 : li < mi
      · have hnext := dig_next hdig.out hq hr (.inr (by rw [← hm]; omega))
        clear hm32 hmi hki hli hm hq2
        have n1 : IntKind.u64.wrap (qi - 1) = qni := by rw [IntKind.wrap_u64]; omega
        have HN := Lib.hid hnext
        have HI := Lib.hid (And.intro hqi (And.intro hri (And.intro hrn (And.intro hrni hqni))))
        have HQR := Lib.hid (And.intro hq hr)
        by_cases c3 : 4294967296 ≤ rni
        · have hX : qni = (Q1 : Int) := by
            obtain ⟨e1, e2, e3, e4, e5⟩ := HI.out
            obtain ⟨k1, k2, k3⟩ := HN.out
            have := k2 (by omega)
            rw [← HQ1.out] at this
            omega
          have T3 : IntKind.u64.wrap (qni * (Y : Int)) = qym := by rw [hX]; exact t3
          have T5 : IntKind.u64.wrap (qni * 4294967296) = Q1B := by rw [hX]; exact t5
          clear hqi hri hrn hrni hqni hq hr hmul hnext h31 hu1b hu0b hy0b hy1b hX HI HN HQR
          go_wp2
          go_loop [16, 18] (fun b a => ∃ q r : Nat, Hid (Dig Y y1 y0 R1 u0 q r) ∧ Hid (q ≤ 4294967297 ∧ r < 4294967296) ∧ a = .int .u64 (q : Nat) ∧ b = .int .u64 (r : Nat)) (fun _ a => (intOf a).toNat)
          case atStart => exact ⟨_, _, HD2, HB2, rfl, rfl⟩
          case round =>
            obtain ⟨q, r, hdig, hqr, rfl, rfl⟩ := hrel
            obtain ⟨hq, hr⟩ := hqr.out
            obtain ⟨h31, hu1b, hu0b, hy0b, hy1b⟩ := HY.out
            clear hqr
            obtain ⟨qi, hqi⟩ : ∃ qi : Int, qi = (q : Int) := ⟨_, rfl⟩
            obtain ⟨ri, hri⟩ : ∃ ri : Int, ri = (r : Int) := ⟨_, rfl⟩
            rw [← hqi, ← hri]
            obtain ⟨rn, hrn⟩ : ∃ rn, rn = r + y1 := ⟨_, rfl⟩
            obtain ⟨rni, hrni⟩ : ∃ rni : Int, rni = (rn : Int) := ⟨_, rfl⟩
            obtain ⟨qni, hqni⟩ : ∃ qni : Int, qni = qi - 1 := ⟨_, rfl⟩
            have n2 : IntKind.u64.wrap (ri + (y1 : Int)) = rni := by rw [IntKind.wrap_u64]; omega
            have hmul := Nat.mul_le_mul hq (show y0 ≤ 4294967295 by omega)
            by_cases c1 : 4294967296 ≤ qi
            · have hnext := dig_next hdig.out hq hr (.inl (by omega))
              have n1 : IntKind.u64.wrap (qi - 1) = qni := by rw [IntKind.wrap_u64]; omega
              have HN := Lib.hid hnext
              have HI := Lib.hid (And.intro hqi (And.intro hri (And.intro hrn (And.intro hrni hqni))))
              have HQR := Lib.hid (And.intro hq hr)
              by_cases c3 : 4294967296 ≤ rni
              · have hX : qni = (Q0 : Int) := by
                  obtain ⟨e1, e2, e3, e4, e5⟩ := HI.out
                  obtain ⟨k1, k2, k3⟩ := HN.out
                  have := k2 (by omega)
                  rw [← HQ0.out] at this
                  omega
                have T6 : IntKind.u64.wrap ((Q1B : Int) + qni) = (Q : Int) := by rw [hX]; exact t6
                clear hqi hri hrn hrni hqni hq hr hmul hnext h31 hu1b hu0b hy0b hy1b hX HI HN HQR
                go_wp2
                go_ret2
                exact ⟨⟨_, rfl⟩, rfl⟩
              · clear hqi hri hrn hrni hqni hq hr hmul hnext h31 hu1b hu0b hy0b hy1b
                go_wp2
                obtain ⟨e1, e2, e3, e4, e5⟩ := HI.out
                obtain ⟨k1, k2, k3⟩ := HN.out
                obtain ⟨l1, l2⟩ := HQR.out
                go_round
                case rel => exact ⟨q - 1, rn, Lib.hid (by rw [e3]; exact k3), Lib.hid (by omega), by rw [show qni = ((q - 1 : Nat) : Int) by omega], by rw [e4]⟩
                case measure => simp [intOf]; omega
            · have hq2 : q < 4294967296 := by omega
              have hm32 := Nat.mul_le_mul (show q ≤ 4294967295 by omega) (show y0 ≤ 4294967295 by omega)
              obtain ⟨m, hm⟩ : ∃ m, m = q * y0 := ⟨_, rfl⟩
              rw [← hm] at hm32
              obtain ⟨mi, hmi⟩ : ∃ mi : Int, mi = (m : Int) := ⟨_, rfl⟩
              obtain ⟨ki, hki⟩ : ∃ ki : Int, ki = 4294967296 * ri := ⟨_, rfl⟩
              obtain ⟨li, hli⟩ : ∃ li : Int, li = ki + (u0 : Int) := ⟨_, rfl⟩
              have g1 : IntKind.u64.wrap (qi * (y0 : Int)) = mi := by rw [hqi, ← Int.natCast_mul, ← hm, ← hmi, IntKind.wrap_u64]; omega
              have g2 : IntKind.u64.wrap (4294967296 * ri) = ki := by rw [IntKind.wrap_u64]; omega
              have g3 : IntKind.u64.wrap (ki + (u0 : Int)) = li := by rw [IntKind.wrap_u64]; omega
              have c1' : qi < 4294967296 := by omega
              clear c1
              by_cases c2 : li < mi
              · have hnext := dig_next hdig.out hq hr (.inr (by rw [← hm]; omega))
                clear hm32 hmi hki hli hm hq2
                have n1 : IntKind.u64.wrap (qi - 1) = qni := by rw [IntKind.wrap_u64]; omega
                have HN := Lib.hid hnext
                have HI := Lib.hid (And.intro hqi (And.intro hri (And.intro hrn (And.intro hrni hqni))))
                have HQR := Lib.hid (And.intro hq hr)
                by_cases c3 : 4294967296 ≤ rni
                · have hX : qni = (Q0 : Int) := by
                    obtain ⟨e1, e2, e3, e4, e5⟩ := HI.out
                    obtain ⟨k1, k2, k3⟩ := HN.out
                    have := k2 (by omega)
                    rw [← HQ0.out] at this
                    omega
                  have T6 : IntKind.u64.wrap ((Q1B : Int) + qni) = (Q : Int) := by rw [hX]; exact t6
                  clear hqi hri hrn hrni hqni hq hr hmul hnext h31 hu1b hu0b hy0b hy1b hX HI HN HQR
                  go_wp2
                  go_ret2
                  exact ⟨⟨_, rfl⟩, rfl⟩
                · clear hqi hri hrn hrni hqni hq hr hmul hnext h31 hu1b hu0b hy0b hy1b
                  go_wp2
                  obtain ⟨e1, e2, e3, e4, e5⟩ := HI.out
                  obtain ⟨k1, k2, k3⟩ := HN.out
                  obtain ⟨l1, l2⟩ := HQR.out
                  go_round
                  case rel => exact ⟨q - 1, rn, Lib.hid (by rw [e3]; exact k3), Lib.hid (by omega), by rw [show qni = ((q - 1 : Nat) : Int) by omega], by rw [e4]⟩
                  case measure => simp [intOf]; omega
              · have hX : qi = (Q0 : Int) := by
                  have := dig_done hdig.out (by rw [← hm]; omega)
                  rw [← HQ0.out] at this
                  omega
                have n1 : True := trivial
                have HN : True := trivial
                have HI : True := trivial
                have HQR : True := trivial
                have hnext : True := trivial
                have c2' : mi ≤ li := by omega
                clear hm32 hmi hki hli hm hq2 c2
                have T6 : IntKind.u64.wrap ((Q1B : Int) + qi) = (Q : Int) := by rw [hX]; exact t6
                clear hqi hri hrn hrni hqni hq hr hmul hnext h31 hu1b hu0b hy0b hy1b hX HI HN HQR
                go_wp2
                go_ret2
                exact ⟨⟨_, rfl⟩, rfl⟩
        · clear hqi hri hrn hrni hqni hq hr hmul hnext h31 hu1b hu0b hy0b hy1b
          go_wp2
          obtain ⟨e1, e2, e3, e4, e5⟩ := HI.out
          obtain ⟨k1, k2, k3⟩ := HN.out
          obtain ⟨l1, l2⟩ := HQR.out
          go_round
          case rel => exact ⟨q - 1, rn, Lib.hid (by rw [e3]; exact k3), Lib.hid (by omega), by rw [show qni = ((q - 1 : Nat) : Int) by omega], by rw [e4]⟩
          case measure => simp [intOf]; omega
      · have hX : qi = (Q1 : Int) := by
          have := dig_done hdig.out (by rw [← hm]; omega)
          rw [← HQ1.out] at this
          omega
        have n1 : True := trivial
        have HN : True := trivial
        have HI : True := trivial
        have HQR : True := trivial
        have hnext : True := trivial
        have c2' : mi ≤ li := by omega
        clear hm32 hmi hki hli hm hq2 c2
        have T3 : IntKind.u64.wrap (qi * (Y : Int)) = qym := by rw [hX]; exact t3
        have T5 : IntKind.u64.wrap (qi * 4294967296) = Q1B := by rw [hX]; exact t5
        clear hqi hri hrn hrni hqni hq hr hmul hnext h31 hu1b hu0b hy0b hy1b hX HI HN HQR
        go_wp2
        go_loop [16, 18] (fun b a => ∃ q r : Nat, Hid (Dig Y y1 y0 R1 u0 q r) ∧ Hid (q ≤ 4294967297 ∧ r < 4294967296) ∧ a = .int .u64 (q : Nat) ∧ b = .int .u64 (r : Nat)) (fun _ a => (intOf a).toNat)
        case atStart => exact ⟨_, _, HD2, HB2, rfl, rfl⟩
        case round =>
          obtain ⟨q, r, hdig, hqr, rfl, rfl⟩ := hrel
          obtain ⟨hq, hr⟩ := hqr.out
          obtain ⟨h31, hu1b, hu0b, hy0b, hy1b⟩ := HY.out
          clear hqr
          obtain ⟨qi, hqi⟩ : ∃ qi : Int, qi = (q : Int) := ⟨_, rfl⟩
          obtain ⟨ri, hri⟩ : ∃ ri : Int, ri = (r : Int) := ⟨_, rfl⟩
          rw [← hqi, ← hri]
          obtain ⟨rn, hrn⟩ : ∃ rn, rn = r + y1 := ⟨_, rfl⟩
          obtain ⟨rni, hrni⟩ : ∃ rni : Int, rni = (rn : Int) := ⟨_, rfl⟩
          obtain ⟨qni, hqni⟩ : ∃ qni : Int, qni = qi - 1 := ⟨_, rfl⟩
          have n2 : IntKind.u64.wrap (ri + (y1 : Int)) = rni := by rw [IntKind.wrap_u64]; omega
          have hmul := Nat.mul_le_mul hq (show y0 ≤ 4294967295 by omega)
          by_cases c1 : 4294967296 ≤ qi
          · have hnext := dig_next hdig.out hq hr (.inl (by omega))
            have n1 : IntKind.u64.wrap (qi - 1) = qni := by rw [IntKind.wrap_u64]; omega
            have HN := Lib.hid hnext
            have HI := Lib.hid (And.intro hqi (And.intro hri (And.intro hrn (And.intro hrni hqni))))
            have HQR := Lib.hid (And.intro hq hr)
            by_cases c3 : 4294967296 ≤ rni
            · have hX : qni = (Q0 : Int) := by
                obtain ⟨e1, e2, e3, e4, e5⟩ := HI.out
                obtain ⟨k1, k2, k3⟩ := HN.out
                have := k2 (by omega)
                rw [← HQ0.out] at this
                omega
              have T6 : IntKind.u64.wrap ((Q1B : Int) + qni) = (Q : Int) := by rw [hX]; exact t6
              clear hqi hri hrn hrni hqni hq hr hmul hnext h31 hu1b hu0b hy0b hy1b hX HI HN HQR
              go_wp2
              go_ret2
              exact ⟨⟨_, rfl⟩, rfl⟩
            · clear hqi hri hrn hrni hqni hq hr hmul hnext h31 hu1b hu0b hy0b hy1b
              go_wp2
              obtain ⟨e1, e2, e3, e4, e5⟩ := HI.out
              obtain ⟨k1, k2, k3⟩ := HN.out
              obtain ⟨l1, l2⟩ := HQR.out
              go_round
              case rel => exact ⟨q - 1, rn, Lib.hid (by rw [e3]; exact k3), Lib.hid (by omega), by rw [show qni = ((q - 1 : Nat) : Int) by omega], by rw [e4]⟩
              case measure => simp [intOf]; omega
          · have hq2 : q < 4294967296 := by omega
            have hm32 := Nat.mul_le_mul (show q ≤ 4294967295 by omega) (show y0 ≤ 4294967295 by omega)
            obtain ⟨m, hm⟩ : ∃ m, m = q * y0 := ⟨_, rfl⟩
            rw [← hm] at hm32
            obtain ⟨mi, hmi⟩ : ∃ mi : Int, mi = (m : Int) := ⟨_, rfl⟩
            obtain ⟨ki, hki⟩ : ∃ ki : Int, ki = 4294967296 * ri := ⟨_, rfl⟩
            obtain ⟨li, hli⟩ : ∃ li : Int, li = ki + (u0 : Int) := ⟨_, rfl⟩
            have g1 : IntKind.u64.wrap (qi * (y0 : Int)) = mi := by rw [hqi, ← Int.natCast_mul, ← hm, ← hmi, IntKind.wrap_u64]; omega
            have g2 : IntKind.u64.wrap (4294967296 * ri) = ki := by rw [IntKind.wrap_u64]; omega
            have g3 : IntKind.u64.wrap (ki + (u0 : Int)) = li := by rw [IntKind.wrap_u64]; omega
            have c1' : qi < 4294967296 := by omega
            clear c1
            by_cases c2 : li < mi
            · have hnext := dig_next hdig.out hq hr (.inr (by rw [← hm]; omega))
              clear hm32 hmi hki hli hm hq2
              have n1 : IntKind.u64.wrap (qi - 1) = qni := by rw [IntKind.wrap_u64]; omega
              have HN := Lib.hid hnext
              have HI := Lib.hid (And.intro hqi (And.intro hri (And.intro hrn (And.intro hrni hqni))))
              have HQR := Lib.hid (And.intro hq hr)
              by_cases c3 : 4294967296 ≤ rni
              · have hX : qni = (Q0 : Int) := by
                  obtain ⟨e1, e2, e3, e4, e5⟩ := HI.out
                  obtain ⟨k1, k2, k3⟩ := HN.out
                  have := k2 (by omega)
                  rw [← HQ0.out] at this
                  omega
                have T6 : IntKind.u64.wrap ((Q1B : Int) + qni) = (Q : Int) := by rw [hX]; exact t6
                clear hqi hri hrn hrni hqni hq hr hmul hnext h31 hu1b hu0b hy0b hy1b hX HI HN HQR
                go_wp2
                go_ret2
                exact ⟨⟨_, rfl⟩, rfl⟩
              · clear hqi hri hrn hrni hqni hq hr hmul hnext h31 hu1b hu0b hy0b hy1b
                go_wp2
                obtain ⟨e1, e2, e3, e4, e5⟩ := HI.out
                obtain ⟨k1, k2, k3⟩ := HN.out
                obtain ⟨l1, l2⟩ := HQR.out
                go_round
                case rel => exact ⟨q - 1, rn, Lib.hid (by rw [e3]; exact k3), Lib.hid (by omega), by rw [show qni = ((q - 1 : Nat) : Int) by omega], by rw [e4]⟩
                case measure => simp [intOf]; omega
            · have hX : qi = (Q0 : Int) := by
                have := dig_done hdig.out (by rw [← hm]; omega)
                rw [← HQ0.out] at this
                omega
              have n1 : True := trivial
              have HN : True := trivial
              have HI : True := trivial
              have HQR : True := trivial
              have hnext : True := trivial
              have c2' : mi ≤ li := by omega
              clear hm32 hmi hki hli hm hq2 c2
              have T6 : IntKind.u64.wrap ((Q1B : Int) + qi) = (Q : Int) := by rw [hX]; exact t6
              clear hqi hri hrn hrni hqni hq hr hmul hnext h31 hu1b hu0b hy0b hy1b hX HI HN HQR
              go_wp2
              go_ret2
              exact ⟨⟨_, rfl⟩, rfl⟩
end Go.Proofs.Ythoagfoekopioaa
