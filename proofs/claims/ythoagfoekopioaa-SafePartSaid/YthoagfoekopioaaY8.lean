/- Safe: Share, the program's and the document's. -/
import Derived.Test.YthoagfoekopioaaY7
set_option linter.unusedVariables false
namespace Go.Proofs.Ythoagfoekopioaa
open Go.RowKit

theorem below_drew {w : World} (m : Nat) : Below w.heap.size w (w.drewN m) := ⟨rfl, rfl, rfl, Nat.le_refl _, fun _ _ => rfl⟩
theorem div_c (hi lo y : Nat) (hy : hi < y) (hlo : lo < 18446744073709551616) (hy2 : y < 18446744073709551616) (w : World) : Calls Try.prog 30 #[.int .u64 (hi : Nat), .int .u64 (lo : Nat), .int .u64 (y : Nat)] w fun e w' => (∃ r : Int, e = .returned (.tuple #[.int .u64 (((hi * 18446744073709551616 + lo) / y : Nat) : Int), .int .u64 r])) ∧ ∃ m, w' = w.drewN m := by
  rcases Nat.eq_zero_or_pos hi with h | h
  · subst h
    have := div_zero lo y (by omega) hlo hy2 w
    rw [Nat.zero_mul, Nat.zero_add]
    exact this
  · exact (div_big hi lo y h hy hlo hy2 w).mono fun e w' ⟨h1, h2⟩ => ⟨h1, 0, h2.symm⟩

theorem share_no (a b : Int) (h : b < 1 ∨ a < 0) (w : World) : Calls Try.prog 10 #[.int .i64 a, .int .i64 b] w fun e w' => e = .returned (.tuple #[.int .i64 0, .int .i64 1]) ∧ Below w.heap.size w w' := by
  by_cases h1 : b < 1
  · go_enter Try.func10, Try.ntmps10
    go_wp2; go_ret2; exact ⟨rfl, Below.refl _ _⟩
  · have h2 : a < 0 := by omega
    go_enter Try.func10, Try.ntmps10
    go_wp2; go_ret2; exact ⟨rfl, Below.refl _ _⟩
set_option maxRecDepth 100000 in
set_option maxHeartbeats 2000000 in
theorem share_yes (a b : Int) (ha : 0 ≤ a) (ha2 : a ≤ 9223372036854775807) (hb : 1 ≤ b) (hb2 : b ≤ 9223372036854775807) (w : World) : Calls Try.prog 10 #[.int .i64 a, .int .i64 b] w fun e w' => e = .returned (.tuple #[.int .i64 (okV (shareX a b)), .int .i64 (okE (shareX a b))]) ∧ Below w.heap.size w w' := by
  have c1 : IntKind.u64.wrap a = a := by rw [IntKind.wrap_u64]; omega
  have c2 : IntKind.u64.wrap b = b := by rw [IntKind.wrap_u64]; omega
  obtain ⟨h, hh⟩ : ∃ h : Int, h = a / 4294967296 := ⟨_, rfl⟩
  obtain ⟨l, hl⟩ : ∃ l : Int, l = a * 4294967296 % 18446744073709551616 := ⟨_, rfl⟩
  have c3 : a / 4294967296 = h := hh.symm
  have c4 : IntKind.u64.wrap (a * 4294967296) = l := by rw [IntKind.wrap_u64]; exact hl.symm
  have hsplit : h * 18446744073709551616 + l = a * 4294967296 := by omega
  by_cases hc : b ≤ h
  · have hX : fits (shareX a b) = false := by
      have h1 : 18446744073709551616 ≤ a * 4294967296 / b := by
        rw [Int.le_ediv_iff_mul_le (by omega)]
        have : 18446744073709551616 * b ≤ 18446744073709551616 * h := Int.mul_le_mul_of_nonneg_left hc (by omega)
        omega
      rw [← Bool.not_eq_true, fits_iff]
      unfold shareX
      omega
    rw [okV_no hX, okE_no hX]
    clear hX hsplit hh hl
    go_enter Try.func10, Try.ntmps10
    go_wp2; go_ret2; exact ⟨rfl, Below.refl _ _⟩
  · have hd := fun w => div_c h.toNat l.toNat b.toNat (by omega) (by omega) (by omega) w
    have e1 : ((h.toNat : Nat) : Int) = h := Int.toNat_of_nonneg (by omega)
    have e2 : ((l.toNat : Nat) : Int) = l := Int.toNat_of_nonneg (by omega)
    have e3 : ((b.toNat : Nat) : Int) = b := Int.toNat_of_nonneg (by omega)
    have eq : (((h.toNat * 18446744073709551616 + l.toNat) / b.toNat : Nat) : Int) = shareX a b := by
      rw [Int.natCast_ediv, Int.natCast_add, Int.natCast_mul, e1, e2, e3]
      unfold shareX
      rw [← hsplit]
      rfl
    simp only [e1, e2, e3, eq] at hd
    have hx0 := shareX_nonneg ha hb
    obtain ⟨q, hq⟩ : ∃ q, q = shareX a b := ⟨_, rfl⟩
    rw [← hq] at hd hx0 ⊢
    have HD := Lib.hid hd
    clear hd e1 e2 e3 eq hq hsplit hh hl
    by_cases hf : q ≤ 9223372036854775807
    · have hX : fits q = true := by rw [fits_iff]; omega
      rw [okV_yes hX, okE_yes hX]
      have hw : IntKind.i64.wrap q = q := by rw [IntKind.wrap_i64]; omega
      clear hX
      go_enter Try.func10, Try.ntmps10
      go_wp2_with fail
      refine (HD.out _).mono ?_
      rintro e w' ⟨⟨r, rfl⟩, m, rfl⟩
      go_wp2; go_ret2; exact ⟨rfl, below_drew m⟩
    · have hX : fits q = false := by rw [← Bool.not_eq_true, fits_iff]; omega
      rw [okV_no hX, okE_no hX]
      have hf2 : 9223372036854775807 < q := by omega
      clear hX hf
      go_enter Try.func10, Try.ntmps10
      go_wp2_with fail
      refine (HD.out _).mono ?_
      rintro e w' ⟨⟨r, rfl⟩, m, rfl⟩
      go_wp2; go_ret2; exact ⟨rfl, below_drew m⟩
theorem share_c (a b : Int) (ha : inI a) (hb : inI b) (w : World) : Calls Try.prog 10 #[.int .i64 a, .int .i64 b] w fun e w' => e = .returned (.tuple #[.int .i64 (shareV a b), .int .i64 (shareE a b)]) ∧ Below w.heap.size w w' := by
  unfold inI at ha hb
  unfold shareV shareE
  by_cases h : b < 1 ∨ a < 0
  · rw [if_pos h, if_pos h]; exact share_no a b h w
  · rw [if_neg h, if_neg h]; exact share_yes a b (by omega) ha.2 (by omega) hb.2 w

/-! ### the document's: long division -/
theorem rshare_no (a b : Int) (h : b < 1 ∨ a < 0) (w : World) : Calls Try.prog 13 #[.int .i64 a, .int .i64 b] w fun e w' => e = .returned (.tuple #[.int .i64 0, .int .i64 1]) ∧ Below w.heap.size w w' := by
  by_cases h1 : b < 1
  · go_enter Try.func13, Try.ntmps13
    go_wp2; go_ret2; exact ⟨rfl, Below.refl _ _⟩
  · have h2 : a < 0 := by omega
    go_enter Try.func13, Try.ntmps13
    go_wp2; go_ret2; exact ⟨rfl, Below.refl _ _⟩
/-- A long division, k digits in. -/
structure Lng (a b : Int) (k : Nat) (q r : Int) : Prop where
  eq : a * 2 ^ k = q * b + r
  r0 : 0 ≤ r
  r1 : r < b
  q0 : 0 ≤ q
theorem lng_start {a b : Int} (ha : 0 ≤ a) (hb : 1 ≤ b) : Lng a b 0 (a / b) (a % b) :=
  ⟨by rw [Int.pow_zero, Int.mul_one]; exact (Int.ediv_mul_add_emod a b).symm, Int.emod_nonneg a (by omega), Int.emod_lt_of_pos a (by omega), Int.ediv_nonneg ha (by omega)⟩
theorem lng_up {a b : Int} {k : Nat} {q r : Int} (h : Lng a b k q r) (ht : b - r ≤ r) : Lng a b (k + 1) (q * 2 + 1) (r - (b - r)) := by
  refine ⟨?_, by omega, by have := h.r1; omega, by have := h.q0; omega⟩
  rw [Int.pow_succ, ← Int.mul_assoc, h.eq]; grind
theorem lng_down {a b : Int} {k : Nat} {q r : Int} (h : Lng a b k q r) (ht : r < b - r) : Lng a b (k + 1) (q * 2) (r + r) := by
  refine ⟨?_, by have := h.r0; omega, by omega, by have := h.q0; omega⟩
  rw [Int.pow_succ, ← Int.mul_assoc, h.eq]; grind
theorem lng_end {a b : Int} {q r : Int} (h : Lng a b 32 q r) : shareX a b = q := by
  have e : a * 4294967296 = q * b + r := h.eq
  have hb : 0 < b := by have := h.r0; have := h.r1; omega
  unfold shareX
  rw [e, Int.add_comm, Int.add_mul_ediv_right _ _ (by omega), Int.ediv_eq_zero_of_lt h.r0 h.r1]
  omega
theorem lng_many {a b : Int} {k : Nat} {q r : Int} (h : Lng a b k q r) (hk : k < 32) (hq : 4611686018427387903 < q) : 9223372036854775807 < shareX a b := by
  have hb : 0 < b := by have := h.r0; have := h.r1; omega
  obtain ⟨j, hj⟩ : ∃ j, 32 = k + (j + 1) := ⟨31 - k, by omega⟩
  have hp : (1 : Int) ≤ 2 ^ j := by have : (0 : Int) < 2 ^ j := Int.pow_pos (by omega); omega
  have e : a * 4294967296 = (q * b + r) * 2 ^ (j + 1) := by
    rw [← h.eq, Int.mul_assoc, ← Int.pow_add, ← hj]; rfl
  have h1 : q * 2 ≤ shareX a b := by
    unfold shareX
    rw [Int.le_ediv_iff_mul_le hb, e, Int.pow_succ]
    have h2 : q * b * 1 ≤ q * b * 2 ^ j := Int.mul_le_mul_of_nonneg_left hp (Int.mul_nonneg h.q0 (by omega))
    have h3 : 0 ≤ r * 2 ^ j := Int.mul_nonneg h.r0 (by omega)
    have e2 : (q * b + r) * (2 ^ j * 2) = 2 * (q * b * 2 ^ j) + 2 * (r * 2 ^ j) := by grind
    have e3 : q * 2 * b = 2 * (q * b) := by grind
    rw [e2, e3]
    omega
  omega
set_option maxRecDepth 100000 in
set_option maxHeartbeats 2000000 in
theorem rshare_yes (a b : Int) (ha : 0 ≤ a) (ha2 : a ≤ 9223372036854775807) (hb : 1 ≤ b) (hb2 : b ≤ 9223372036854775807) (w : World) : Calls Try.prog 13 #[.int .i64 a, .int .i64 b] w fun e w' => e = .returned (.tuple #[.int .i64 (okV (shareX a b)), .int .i64 (okE (shareX a b))]) ∧ Below w.heap.size w w' := by
  have hl0 := lng_start ha hb
  obtain ⟨q0, hq0⟩ : ∃ q0, q0 = a / b := ⟨_, rfl⟩
  obtain ⟨r0, hr0⟩ : ∃ r0, r0 = a % b := ⟨_, rfl⟩
  rw [← hq0, ← hr0] at hl0
  have hq0b : q0 ≤ 9223372036854775807 := by rw [hq0]; exact Int.le_trans (Int.ediv_le_self b ha) ha2
  have hd1 : a.tdiv b = q0 := by rw [Int.tdiv_eq_ediv_of_nonneg ha]; exact hq0.symm
  have hd2 : a.tmod b = r0 := by rw [Int.tmod_eq_emod_of_nonneg ha]; exact hr0.symm
  have hd3 : a / b = q0 := hq0.symm
  have hd4 : a % b = r0 := hr0.symm
  have hw1 : IntKind.i64.wrap q0 = q0 := by have := hl0.q0; rw [IntKind.wrap_i64]; omega
  have z1 : (b == 0) = false := by simp; omega
  have z2 : ¬ b = 0 := by omega
  have HL0 := Lib.hid (And.intro hl0 hq0b)
  clear hl0 hq0 hr0 hq0b
  go_enter Try.func13, Try.ntmps13
  go_wp2_with fail
  go_quiet (fail)
  clear hd1 hd2 hd3 hd4 hw1 z1 z2
  go_wp2
  go_loop [6, 7, 8] (fun x y i => ∃ (k : Nat) (q r : Int), k ≤ 32 ∧ Hid (Lng a b k q r ∧ q ≤ 9223372036854775807) ∧ (x = .int .i64 q ∧ y = .int .i64 r) ∧ i = .int .i64 (k : Nat)) (fun _ _ i => 32 - (intOf i).toNat)
  case atStart => exact ⟨0, q0, r0, by omega, HL0, ⟨rfl, rfl⟩, rfl⟩
  case round =>
    obtain ⟨k, q, r, hk, hl, ⟨rfl, rfl⟩, rfl⟩ := hrel
    have q0' := hl.out.1.q0
    have r0' := hl.out.1.r0
    have r1' := hl.out.1.r1
    have qb := hl.out.2
    by_cases hlt : k < 32
    · have hlt' : (k : Int) < 32 := by omega
      by_cases hmany : 4611686018427387903 < q
      · have hm := lng_many hl.out.1 hlt hmany
        have hX : fits (shareX a b) = false := by rw [← Bool.not_eq_true, fits_iff]; omega
        have E1 := Lib.hid (okV_no hX)
        have E2 := Lib.hid (okE_no hX)
        clear hm hX
        go_wp2
        go_ret2
        exact ⟨ret_two E1.out.symm E2.out.symm, below_drew _⟩
      · have e1 : IntKind.i64.wrap (q * 2) = q * 2 := by rw [IntKind.wrap_i64]; omega
        by_cases hc : b - r ≤ r
        · have HN := Lib.hid (lng_up hl.out.1 hc)
          clear hl
          go_wp2
          go_round
          case rel => exact ⟨k + 1, q * 2 + 1, r - (b - r), by omega, Lib.hid ⟨HN.out, by omega⟩, ⟨rfl, rfl⟩, by go_num⟩
          case measure => simp [intOf]; omega
        · have HN := Lib.hid (lng_down hl.out.1 (by omega))
          have hc' : r < b - r := by omega
          clear hl hc
          go_wp2
          go_round
          case rel => exact ⟨k + 1, q * 2, r + r, by omega, Lib.hid ⟨HN.out, by omega⟩, ⟨rfl, rfl⟩, by go_num⟩
          case measure => simp [intOf]; omega
    · obtain rfl : k = 32 := by omega
      have e := lng_end hl.out.1
      have hX : fits (shareX a b) = true := by rw [e, fits_iff]; omega
      have E1 := Lib.hid (okV_yes hX)
      have E2 := Lib.hid (okE_yes hX)
      have E3 := Lib.hid e
      clear hX e hl
      go_wp2
      go_ret2
      exact ⟨ret_two (by rw [E1.out, E3.out]) E2.out.symm, below_drew _⟩
theorem rshare_c (a b : Int) (ha : inI a) (hb : inI b) (w : World) : Calls Try.prog 13 #[.int .i64 a, .int .i64 b] w fun e w' => e = .returned (.tuple #[.int .i64 (shareV a b), .int .i64 (shareE a b)]) ∧ Below w.heap.size w w' := by
  unfold inI at ha hb
  unfold shareV shareE
  by_cases h : b < 1 ∨ a < 0
  · rw [if_pos h, if_pos h]; exact rshare_no a b h w
  · rw [if_neg h, if_neg h]; exact rshare_yes a b (by omega) ha.2 (by omega) hb.2 w
end Go.Proofs.Ythoagfoekopioaa
