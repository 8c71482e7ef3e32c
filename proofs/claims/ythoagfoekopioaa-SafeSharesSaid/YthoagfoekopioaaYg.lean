/- Safe: the document's Of; the walks of SafeTwo and SafeShares. -/
import Derived.Test.YthoagfoekopioaaYf
set_option linter.unusedVariables false
namespace Go.Proofs.Ythoagfoekopioaa
open Go.RowKit Go.Sort

theorem rof_neg (s n : Int) (h : s < 0 ∨ n < 0) (w : World) : Calls Try.prog 14 #[.int .i64 s, .int .i64 n] w fun e w' => e = .returned (.tuple #[.int .i64 0, .int .i64 1]) ∧ Below w.heap.size w w' := by
  by_cases h1 : s < 0
  · clear h
    go_enter Try.func14, Try.ntmps14
    go_wp2; go_ret2; exact ⟨rfl, Below.refl _ _⟩
  · have h2 : n < 0 := by omega
    have h3 : 0 ≤ s := by omega
    clear h h1
    go_enter Try.func14, Try.ntmps14
    go_wp2; go_ret2; exact ⟨rfl, Below.refl _ _⟩
theorem rof_0 (x y : Int) (Z : Big) (hx : 0 ≤ x ∧ x ≤ 9223372036854775807) (hy : 0 ≤ y ∧ y ≤ 9223372036854775807) 
    (HT : Hid (∀ w, Calls Try.prog 34 #[.int .u64 x, .int .u64 y] w fun e w' => e = .returned (bigV Z) ∧ Below w.heap.size w w'))
    (HD : Hid (∀ w, Calls Try.prog 33 #[bigV Z, .int .i64 32] w fun e w' => e = .returned (.tuple #[.int .u64 (0), .bool false]) ∧ Below w.heap.size w w')) (w : World) :
    Calls Try.prog 14 #[.int .i64 x, .int .i64 y] w fun e w' => e = .returned (.tuple #[.int .i64 (0), .int .i64 5]) ∧ Below w.heap.size w w' := by
  obtain ⟨x0, x1⟩ := hx
  obtain ⟨y0, y1⟩ := hy
  go_enter Try.func14, Try.ntmps14
  go_wp2_with fail
  refine (HT.out _).mono ?_
  rintro e w1 ⟨rfl, hb⟩
  have HB := Lib.hid hb
  clear hb
  go_wp2_with fail
  refine (HD.out _).mono ?_
  rintro e w2 ⟨rfl, hb⟩
  have HB2 := Lib.hid (bthen HB.out HB.out.size hb)
  clear hb HB HT HD
  go_wp2
  go_ret2
  exact ⟨ret_two (by first | rfl | omega | kernel_rfl | decide) rfl, HB2.out⟩
theorem rof_1 (x y : Int) (Z : Big) (hx : 0 ≤ x ∧ x ≤ 9223372036854775807) (hy : 0 ≤ y ∧ y ≤ 9223372036854775807) (N : Int) (h : 9223372036854775807 < N) (h2 : N < 18446744073709551616)
    (HT : Hid (∀ w, Calls Try.prog 34 #[.int .u64 x, .int .u64 y] w fun e w' => e = .returned (bigV Z) ∧ Below w.heap.size w w'))
    (HD : Hid (∀ w, Calls Try.prog 33 #[bigV Z, .int .i64 32] w fun e w' => e = .returned (.tuple #[.int .u64 (N), .bool true]) ∧ Below w.heap.size w w')) (w : World) :
    Calls Try.prog 14 #[.int .i64 x, .int .i64 y] w fun e w' => e = .returned (.tuple #[.int .i64 (0), .int .i64 5]) ∧ Below w.heap.size w w' := by
  obtain ⟨x0, x1⟩ := hx
  obtain ⟨y0, y1⟩ := hy
  go_enter Try.func14, Try.ntmps14
  go_wp2_with fail
  refine (HT.out _).mono ?_
  rintro e w1 ⟨rfl, hb⟩
  have HB := Lib.hid hb
  clear hb
  go_wp2_with fail
  refine (HD.out _).mono ?_
  rintro e w2 ⟨rfl, hb⟩
  have HB2 := Lib.hid (bthen HB.out HB.out.size hb)
  clear hb HB HT HD
  go_wp2
  go_ret2
  exact ⟨ret_two (by first | rfl | omega | kernel_rfl | decide) rfl, HB2.out⟩
theorem rof_2 (x y : Int) (Z : Big) (hx : 0 ≤ x ∧ x ≤ 9223372036854775807) (hy : 0 ≤ y ∧ y ≤ 9223372036854775807) (N : Int) (h : 0 ≤ N) (h2 : N ≤ 9223372036854775807)
    (HT : Hid (∀ w, Calls Try.prog 34 #[.int .u64 x, .int .u64 y] w fun e w' => e = .returned (bigV Z) ∧ Below w.heap.size w w'))
    (HD : Hid (∀ w, Calls Try.prog 33 #[bigV Z, .int .i64 32] w fun e w' => e = .returned (.tuple #[.int .u64 (N), .bool true]) ∧ Below w.heap.size w w')) (w : World) :
    Calls Try.prog 14 #[.int .i64 x, .int .i64 y] w fun e w' => e = .returned (.tuple #[.int .i64 (N), .int .i64 0]) ∧ Below w.heap.size w w' := by
  obtain ⟨x0, x1⟩ := hx
  obtain ⟨y0, y1⟩ := hy
  go_enter Try.func14, Try.ntmps14
  go_wp2_with fail
  refine (HT.out _).mono ?_
  rintro e w1 ⟨rfl, hb⟩
  have HB := Lib.hid hb
  clear hb
  go_wp2_with fail
  refine (HD.out _).mono ?_
  rintro e w2 ⟨rfl, hb⟩
  have HB2 := Lib.hid (bthen HB.out HB.out.size hb)
  clear hb HB HT HD
  go_wp2
  go_ret2
  exact ⟨ret_two (by first | rfl | omega | kernel_rfl | decide) rfl, HB2.out⟩
theorem rof_c (s n : Int) (hs : inI s) (hn : inI n) (w : World) : Calls Try.prog 14 #[.int .i64 s, .int .i64 n] w fun e w' => e = .returned (.tuple #[.int .i64 (shofV s n), .int .i64 (shofE s n)]) ∧ Below w.heap.size w w' := by
  unfold inI at hs hn
  by_cases h : s < 0 ∨ n < 0
  · unfold shofV shofE; rw [if_pos h, if_pos h]; exact rof_neg s n h w
  · unfold shofV shofE; rw [if_neg h, if_neg h]
    obtain ⟨a, rfl⟩ := Int.eq_ofNat_of_zero_le (show 0 ≤ s by omega)
    obtain ⟨b, rfl⟩ := Int.eq_ofNat_of_zero_le (show 0 ≤ n by omega)
    have ha : a < 18446744073709551616 := by omega
    have hb : b < 18446744073709551616 := by omega
    have HT := Lib.hid (times_c a b ha hb)
    have hX : a * b < 2 ^ 160 := Nat.lt_of_le_of_lt (Nat.mul_le_mul (Nat.le_of_lt ha) (Nat.le_of_lt hb)) (by decide)
    have hd := down_c (a * b) 32 hX (by omega)
    have hof : ofX (a : Nat) (b : Nat) = ((a * b / 2 ^ 32 : Nat) : Int) := by unfold ofX; simp
    obtain ⟨D, hD⟩ : ∃ D, D = a * b / 2 ^ 32 := ⟨_, rfl⟩
    rw [← hD] at hd hof
    rw [hof]
    obtain ⟨Z, hZ⟩ : ∃ Z, Z = ofB (a * b) := ⟨_, rfl⟩
    rw [← hZ] at HT hd
    clear hZ hD hX hof
    rcases Nat.lt_or_ge D 18446744073709551616 with hlt | hge
    · rw [show dwnV D = D by unfold dwnV; rw [if_pos hlt], decide_eq_true hlt] at hd
      obtain ⟨N, hN⟩ : ∃ N : Int, N = (D : Nat) := ⟨_, rfl⟩
      rw [← hN] at hd ⊢
      have HD := Lib.hid hd
      rcases Int.lt_or_le 9223372036854775807 N with h | h
      · have hf : fits N = false := by rw [← Bool.not_eq_true, fits_iff]; omega
        rw [okV_no hf, okE_no hf]
        exact rof_1 a b Z (by omega) (by omega) N h (by omega) HT HD w
      · have hf : fits N = true := by rw [fits_iff]; omega
        rw [okV_yes hf, okE_yes hf]
        exact rof_2 a b Z (by omega) (by omega) N (by omega) h HT HD w
    · rw [show dwnV D = 0 by unfold dwnV; rw [if_neg (by omega)], decide_eq_false (by omega)] at hd
      have HD := Lib.hid hd
      have hf : fits (D : Nat) = false := by rw [← Bool.not_eq_true, fits_iff]; omega
      rw [okV_no hf, okE_no hf]
      exact rof_0 a b Z (by omega) (by omega) HT HD w

set_option maxRecDepth 100000 in
set_option maxHeartbeats 4000000 in
theorem safeTwo_w (a b : Int) (ha : inI a) (hb : inI b) (w : World) : Calls Try.prog 8 #[.int .i64 a, .int .i64 b] w fun e w' => e = .returned (.bool true) ∧ Below w.heap.size w w' := by
  have c0 := add_c a b ha hb
  have c1 := radd_c a b ha hb
  have c2 := sub_c a b ha hb
  have c3 := rsub_c a b ha hb
  have c4 := mul_c a b ha hb
  have c5 := rmul_c a b ha hb
  have c6 := most_c a b ha hb
  have c7 := rmost_c a b ha hb
  obtain ⟨q0, h0⟩ : ∃ q, q = okV (a + b) := ⟨_, rfl⟩
  rw [← h0] at c0 c1
  clear h0
  obtain ⟨q1, h1⟩ : ∃ q, q = okE (a + b) := ⟨_, rfl⟩
  rw [← h1] at c0 c1
  clear h1
  obtain ⟨q2, h2⟩ : ∃ q, q = okV (a - b) := ⟨_, rfl⟩
  rw [← h2] at c2 c3
  clear h2
  obtain ⟨q3, h3⟩ : ∃ q, q = okE (a - b) := ⟨_, rfl⟩
  rw [← h3] at c2 c3
  clear h3
  obtain ⟨q4, h4⟩ : ∃ q, q = okV (a * b) := ⟨_, rfl⟩
  rw [← h4] at c4 c5
  clear h4
  obtain ⟨q5, h5⟩ : ∃ q, q = okE (a * b) := ⟨_, rfl⟩
  rw [← h5] at c4 c5
  clear h5
  obtain ⟨q6, h6⟩ : ∃ q, q = mostV (a + b) := ⟨_, rfl⟩
  rw [← h6] at c6 c7
  clear h6
  have C0 := Lib.hid c0
  have C1 := Lib.hid c1
  have C2 := Lib.hid c2
  have C3 := Lib.hid c3
  have C4 := Lib.hid c4
  have C5 := Lib.hid c5
  have C6 := Lib.hid c6
  have C7 := Lib.hid c7
  clear c0 c1 c2 c3 c4 c5 c6 c7
  have B0 := Lib.hid (Below.refl w.heap.size w)
  have L0 := Lib.hid (Nat.le_refl w.heap.size)
  go_enter Try.func8, Try.ntmps8
  go_wp2_with fail
  refine (C0.out _).mono ?_
  rintro e w' ⟨rfl, rfl⟩
  go_wp2_with fail
  refine (C1.out _).mono ?_
  rintro e w' ⟨rfl, rfl⟩
  go_wp2_with fail
  refine (C2.out _).mono ?_
  rintro e w' ⟨rfl, rfl⟩
  go_wp2_with fail
  refine (C3.out _).mono ?_
  rintro e w' ⟨rfl, rfl⟩
  go_wp2_with fail
  refine (C4.out _).mono ?_
  rintro e w' ⟨rfl, rfl⟩
  go_wp2_with fail
  refine (C5.out _).mono ?_
  rintro e w1 ⟨rfl, hb⟩
  have B1 := Lib.hid (bthen B0.out B0.out.size hb)
  clear hb B0
  go_wp2_with fail
  refine (C6.out _).mono ?_
  rintro e w' ⟨rfl, rfl⟩
  go_wp2_with fail
  refine (C7.out _).mono ?_
  rintro e w' ⟨rfl, rfl⟩
  go_wp2_with fail
  refine (alive02 _).mono ?_
  rintro e w2 ⟨rfl, hb⟩
  have B2 := Lib.hid (bthen B1.out B1.out.size hb)
  clear hb B1
  go_wp2
  go_ret
  exact ⟨rfl, B2.out⟩
set_option maxRecDepth 100000 in
set_option maxHeartbeats 4000000 in
theorem safeShares_w (a b k : Int) (ha : inI a) (hb : inI b) (w : World) : Calls Try.prog 5 #[.int .i64 a, .int .i64 b, .int .i64 k] w fun e w' => e = .returned (.bool true) ∧ Below w.heap.size w w' := by
  have c0 := share_c a b ha hb
  have c1 := rshare_c a b ha hb
  have c2 := sof_c a b ha hb
  have c3 := rof_c a b ha hb
  have c4 := int32_c a ha
  have c5 := rint32_c a ha
  have c6 := halves_c a k ha
  have c7 := rhalves_c a k ha
  obtain ⟨q0, h0⟩ : ∃ q, q = shareV a b := ⟨_, rfl⟩
  rw [← h0] at c0 c1
  clear h0
  obtain ⟨q1, h1⟩ : ∃ q, q = shareE a b := ⟨_, rfl⟩
  rw [← h1] at c0 c1
  clear h1
  obtain ⟨q2, h2⟩ : ∃ q, q = shofV a b := ⟨_, rfl⟩
  rw [← h2] at c2 c3
  clear h2
  obtain ⟨q3, h3⟩ : ∃ q, q = shofE a b := ⟨_, rfl⟩
  rw [← h3] at c2 c3
  clear h3
  obtain ⟨q4, h4⟩ : ∃ q, q = int32V a := ⟨_, rfl⟩
  rw [← h4] at c4 c5
  clear h4
  obtain ⟨q5, h5⟩ : ∃ q, q = int32E a := ⟨_, rfl⟩
  rw [← h5] at c4 c5
  clear h5
  obtain ⟨q6, h6⟩ : ∃ q, q = halvesV a k := ⟨_, rfl⟩
  rw [← h6] at c6 c7
  clear h6
  have C0 := Lib.hid c0
  have C1 := Lib.hid c1
  have C2 := Lib.hid c2
  have C3 := Lib.hid c3
  have C4 := Lib.hid c4
  have C5 := Lib.hid c5
  have C6 := Lib.hid c6
  have C7 := Lib.hid c7
  clear c0 c1 c2 c3 c4 c5 c6 c7
  have B0 := Lib.hid (Below.refl w.heap.size w)
  have L0 := Lib.hid (Nat.le_refl w.heap.size)
  go_enter Try.func5, Try.ntmps5
  go_wp2_with fail
  refine (C0.out _).mono ?_
  rintro e w1 ⟨rfl, hb⟩
  have B1 := Lib.hid (bthen B0.out B0.out.size hb)
  clear hb B0
  go_wp2_with fail
  refine (C1.out _).mono ?_
  rintro e w2 ⟨rfl, hb⟩
  have B2 := Lib.hid (bthen B1.out B1.out.size hb)
  clear hb B1
  go_wp2_with fail
  refine (C2.out _).mono ?_
  rintro e w' ⟨rfl, rfl⟩
  go_wp2_with fail
  refine (C3.out _).mono ?_
  rintro e w3 ⟨rfl, hb⟩
  have B3 := Lib.hid (bthen B2.out B2.out.size hb)
  clear hb B2
  go_wp2_with fail
  refine (C4.out _).mono ?_
  rintro e w' ⟨rfl, rfl⟩
  go_wp2_with fail
  refine (C5.out _).mono ?_
  rintro e w' ⟨rfl, rfl⟩
  go_wp2_with fail
  refine (C6.out _).mono ?_
  rintro e w' ⟨rfl, rfl⟩
  go_wp2_with fail
  refine (C7.out _).mono ?_
  rintro e w' ⟨rfl, rfl⟩
  go_wp2_with fail
  refine (alive02 _).mono ?_
  rintro e w4 ⟨rfl, hb⟩
  have B4 := Lib.hid (bthen B3.out B3.out.size hb)
  clear hb B3
  go_wp2
  go_ret
  exact ⟨rfl, B4.out⟩
end Go.Proofs.Ythoagfoekopioaa
