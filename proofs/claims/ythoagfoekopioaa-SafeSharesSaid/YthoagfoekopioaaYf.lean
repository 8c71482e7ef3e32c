/- Safe: the document's number down again; Mul and Of of the document. -/
import Derived.Test.YthoagfoekopioaaYe
import Derived.Test.YthoagfoekopioaaY9
set_option linter.unusedVariables false
namespace Go.Proofs.Ythoagfoekopioaa
open Go.RowKit Go.Sort

def dwnV (D : Nat) : Nat := if D < 18446744073709551616 then D else 0
theorem dwn_step (X t : Nat) : X / 2 ^ t = 2 * (X / 2 ^ (t + 1)) + (if X.testBit t then 1 else 0) := by
  have h1 : X / 2 ^ (t + 1) = X / 2 ^ t / 2 := by rw [Nat.pow_succ, Nat.div_div_eq_div_mul]
  rw [h1, Nat.testBit_eq_decide_div_mod_eq]
  rcases Nat.mod_two_eq_zero_or_one (X / 2 ^ t) with e | e <;> simp [e] <;> omega
theorem dwn_mono (X : Nat) {m t : Nat} (h : m ≤ t) : X / 2 ^ t ≤ X / 2 ^ m := Nat.div_le_div_left (Nat.pow_le_pow_right (show 0 < 2 by decide) h) (Nat.pow_pos (show 0 < 2 by decide))

set_option maxRecDepth 100000 in
set_option maxHeartbeats 4000000 in
theorem down_c (X m : Nat) (hX : X < 2 ^ 160) (hm : m < 64) (w : World) : Calls Try.prog 33 #[bigV (ofB X), .int .i64 m] w fun e w' => e = .returned (.tuple #[.int .u64 (dwnV (X / 2 ^ m) : Nat), .bool (decide (X / 2 ^ m < 18446744073709551616))]) ∧ Below w.heap.size w w' := by
  have h0 : X / 2 ^ 160 = 0 := Nat.div_eq_of_lt hX
  have HZ := Lib.hid h0
  have HS := Lib.hid (dwn_step X)
  have HM := Lib.hid (fun t => @dwn_mono X m t)
  clear hX h0
  go_enter Try.func33, Try.ntmps33
  have H0 := Lib.hid (Bs.nil w)
  go_wp2_with (refine wpList_alloc_b rfl (some 2) rfl 53 (bigA (ofB X)) (by kernel_rfl) ?_; intro g1 W1 hb hB hg; have H1 := Lib.hid (H0.out.new hb hB hg); clear hb hB hg H0)
  go_loop [6, 7] (fun x i => ∃ (j : Nat) (y : Int), m ≤ j ∧ j ≤ 160 ∧ y = ((X / 2 ^ j : Nat) : Int) ∧ X / 2 ^ j < 18446744073709551616 ∧ x = .int .u64 y ∧ i = .int .i64 ((j : Int) - 1)) (fun _ i => (intOf i + 1).toNat)
  case atStart => exact ⟨160, 0, by omega, by omega, by rw [HZ.out]; rfl, by rw [HZ.out]; omega, rfl, rfl⟩
  case round =>
    obtain ⟨j, y, hj, hj2, hy, hlt, rfl, rfl⟩ := hrel
    by_cases hjm : j = m
    · subst hjm
      have e1 : decide (X / 2 ^ j < 18446744073709551616) = true := decide_eq_true hlt
      have e2 : ((dwnV (X / 2 ^ j) : Nat) : Int) = y := by unfold dwnV; rw [if_pos hlt, hy]
      have E1 := Lib.hid e1
      have E2 := Lib.hid e2
      clear e1 e2 hy hlt
      go_wp2
      go_ret2
      exact ⟨by rw [E1.out, E2.out]; rfl, H1.out.below⟩
    · obtain ⟨t, rfl⟩ : ∃ t, j = t + 1 := ⟨j - 1, by omega⟩
      have hs := HS.out t
      have hmt := HM.out t (by omega)
      obtain ⟨p1, p2, p3⟩ := H1.out.rules 0 rfl
      have hca := p1 t
      rw [bigF_get _ _ (by omega), ofB_bit X t (by omega)] at hca
      clear p1 p2
      rw [show (((t + 1 : Nat) : Int) - 1) = (t : Int) by omega]
      rcases Int.lt_or_le y 9223372036854775808 with hy2 | hy2
      · obtain ⟨b, hb⟩ : ∃ b, b = X.testBit t := ⟨_, rfl⟩
        rw [← hb] at hca hs
        have hpos : 0 ≤ y := by omega
        obtain ⟨z, hz⟩ : ∃ z : Int, z = ((X / 2 ^ t : Nat) : Int) := ⟨_, rfl⟩
        have hz2 : z = 2 * y + (if b = true then 1 else 0) := by rw [hz, hs, hy]; cases b <;> simp
        have hz3 : X / 2 ^ t < 18446744073709551616 := by rw [hs]; cases b <;> simp <;> omega
        have HZ1 := Lib.hid hz
        have HZ3 := Lib.hid hz3
        clear hb hs hmt hy hlt hz hz3
        cases b
        · simp at hz2
          go_wp2_with fail
          go_round
          case rel => exact ⟨t, z, by omega, by omega, HZ1.out, HZ3.out, by rw [hz2, Int.mul_comm], by go_num⟩
          case measure => simp [intOf]
        · simp at hz2
          go_wp2_with fail
          go_round
          case rel => exact ⟨t, z, by omega, by omega, HZ1.out, HZ3.out, by rw [hz2, Int.mul_comm], by go_num⟩
          case measure => simp [intOf]
      · have hbig : ¬ X / 2 ^ m < 18446744073709551616 := by split at hs <;> omega
        have e1 : decide (X / 2 ^ m < 18446744073709551616) = false := decide_eq_false hbig
        have e2 : dwnV (X / 2 ^ m) = 0 := by unfold dwnV; rw [if_neg hbig]
        have hy3 : y < 18446744073709551616 := by omega
        have E1 := Lib.hid e1
        have E2 := Lib.hid e2
        clear e1 e2 hbig hs hmt hy hlt hca
        go_wp2
        go_ret2
        exact ⟨by rw [E1.out, E2.out]; rfl, H1.out.below⟩

theorem rmul_s0 (a b x y : Int) (Z : Big)  (htest : (decide (a < 0) == decide (b < 0)) = true) 
    (HS1 : Hid (∀ w, Calls Try.prog 35 #[.int .i64 a] w fun e w' => e = .returned (.int .u64 x) ∧ w = w'))
    (HS2 : Hid (∀ w, Calls Try.prog 35 #[.int .i64 b] w fun e w' => e = .returned (.int .u64 y) ∧ w = w'))
    (HT : Hid (∀ w, Calls Try.prog 34 #[.int .u64 x, .int .u64 y] w fun e w' => e = .returned (bigV Z) ∧ Below w.heap.size w w'))
    (HD : Hid (∀ w, Calls Try.prog 33 #[bigV Z, .int .i64 0] w fun e w' => e = .returned (.tuple #[.int .u64 (0), .bool false]) ∧ Below w.heap.size w w')) (w : World) :
    Calls Try.prog 27 #[.int .i64 a, .int .i64 b] w fun e w' => e = .returned (.tuple #[.int .i64 (0), .int .i64 5]) ∧ Below w.heap.size w w' := by
  go_enter Try.func27, Try.ntmps27
  go_wp2_with fail
  refine (HS1.out _).mono ?_
  rintro e w' ⟨rfl, rfl⟩
  go_wp2_with fail
  refine (HS2.out _).mono ?_
  rintro e w' ⟨rfl, rfl⟩
  go_wp2_with fail
  refine (HT.out _).mono ?_
  rintro e w1 ⟨rfl, hb⟩
  have HB := Lib.hid hb
  clear hb
  go_wp2_with fail
  refine (HD.out _).mono ?_
  rintro e w2 ⟨rfl, hb⟩
  have HB2 := Lib.hid (bthen HB.out HB.out.size hb)
  clear hb HB HS1 HS2 HT HD
  go_wp2
  go_ret2
  exact ⟨ret_two (by first | rfl | omega | kernel_rfl | decide) rfl, HB2.out⟩
theorem rmul_s1 (a b x y : Int) (Z : Big) (N : Int) (htest : (decide (a < 0) == decide (b < 0)) = true) (h : 9223372036854775808 < N) (h2 : N < 18446744073709551616)
    (HS1 : Hid (∀ w, Calls Try.prog 35 #[.int .i64 a] w fun e w' => e = .returned (.int .u64 x) ∧ w = w'))
    (HS2 : Hid (∀ w, Calls Try.prog 35 #[.int .i64 b] w fun e w' => e = .returned (.int .u64 y) ∧ w = w'))
    (HT : Hid (∀ w, Calls Try.prog 34 #[.int .u64 x, .int .u64 y] w fun e w' => e = .returned (bigV Z) ∧ Below w.heap.size w w'))
    (HD : Hid (∀ w, Calls Try.prog 33 #[bigV Z, .int .i64 0] w fun e w' => e = .returned (.tuple #[.int .u64 (N), .bool true]) ∧ Below w.heap.size w w')) (w : World) :
    Calls Try.prog 27 #[.int .i64 a, .int .i64 b] w fun e w' => e = .returned (.tuple #[.int .i64 (0), .int .i64 5]) ∧ Below w.heap.size w w' := by
  go_enter Try.func27, Try.ntmps27
  go_wp2_with fail
  refine (HS1.out _).mono ?_
  rintro e w' ⟨rfl, rfl⟩
  go_wp2_with fail
  refine (HS2.out _).mono ?_
  rintro e w' ⟨rfl, rfl⟩
  go_wp2_with fail
  refine (HT.out _).mono ?_
  rintro e w1 ⟨rfl, hb⟩
  have HB := Lib.hid hb
  clear hb
  go_wp2_with fail
  refine (HD.out _).mono ?_
  rintro e w2 ⟨rfl, hb⟩
  have HB2 := Lib.hid (bthen HB.out HB.out.size hb)
  clear hb HB HS1 HS2 HT HD
  go_wp2
  go_ret2
  exact ⟨ret_two (by first | rfl | omega | kernel_rfl | decide) rfl, HB2.out⟩
theorem rmul_d0 (a b x y : Int) (Z : Big)  (htest : (decide (a < 0) == decide (b < 0)) = false) 
    (HS1 : Hid (∀ w, Calls Try.prog 35 #[.int .i64 a] w fun e w' => e = .returned (.int .u64 x) ∧ w = w'))
    (HS2 : Hid (∀ w, Calls Try.prog 35 #[.int .i64 b] w fun e w' => e = .returned (.int .u64 y) ∧ w = w'))
    (HT : Hid (∀ w, Calls Try.prog 34 #[.int .u64 x, .int .u64 y] w fun e w' => e = .returned (bigV Z) ∧ Below w.heap.size w w'))
    (HD : Hid (∀ w, Calls Try.prog 33 #[bigV Z, .int .i64 0] w fun e w' => e = .returned (.tuple #[.int .u64 (0), .bool false]) ∧ Below w.heap.size w w')) (w : World) :
    Calls Try.prog 27 #[.int .i64 a, .int .i64 b] w fun e w' => e = .returned (.tuple #[.int .i64 (0), .int .i64 5]) ∧ Below w.heap.size w w' := by
  go_enter Try.func27, Try.ntmps27
  go_wp2_with fail
  refine (HS1.out _).mono ?_
  rintro e w' ⟨rfl, rfl⟩
  go_wp2_with fail
  refine (HS2.out _).mono ?_
  rintro e w' ⟨rfl, rfl⟩
  go_wp2_with fail
  refine (HT.out _).mono ?_
  rintro e w1 ⟨rfl, hb⟩
  have HB := Lib.hid hb
  clear hb
  go_wp2_with fail
  refine (HD.out _).mono ?_
  rintro e w2 ⟨rfl, hb⟩
  have HB2 := Lib.hid (bthen HB.out HB.out.size hb)
  clear hb HB HS1 HS2 HT HD
  go_wp2
  go_ret2
  exact ⟨ret_two (by first | rfl | omega | kernel_rfl | decide) rfl, HB2.out⟩
theorem rmul_d1 (a b x y : Int) (Z : Big) (N : Int) (htest : (decide (a < 0) == decide (b < 0)) = false) (h : 9223372036854775808 < N) (h2 : N < 18446744073709551616)
    (HS1 : Hid (∀ w, Calls Try.prog 35 #[.int .i64 a] w fun e w' => e = .returned (.int .u64 x) ∧ w = w'))
    (HS2 : Hid (∀ w, Calls Try.prog 35 #[.int .i64 b] w fun e w' => e = .returned (.int .u64 y) ∧ w = w'))
    (HT : Hid (∀ w, Calls Try.prog 34 #[.int .u64 x, .int .u64 y] w fun e w' => e = .returned (bigV Z) ∧ Below w.heap.size w w'))
    (HD : Hid (∀ w, Calls Try.prog 33 #[bigV Z, .int .i64 0] w fun e w' => e = .returned (.tuple #[.int .u64 (N), .bool true]) ∧ Below w.heap.size w w')) (w : World) :
    Calls Try.prog 27 #[.int .i64 a, .int .i64 b] w fun e w' => e = .returned (.tuple #[.int .i64 (0), .int .i64 5]) ∧ Below w.heap.size w w' := by
  go_enter Try.func27, Try.ntmps27
  go_wp2_with fail
  refine (HS1.out _).mono ?_
  rintro e w' ⟨rfl, rfl⟩
  go_wp2_with fail
  refine (HS2.out _).mono ?_
  rintro e w' ⟨rfl, rfl⟩
  go_wp2_with fail
  refine (HT.out _).mono ?_
  rintro e w1 ⟨rfl, hb⟩
  have HB := Lib.hid hb
  clear hb
  go_wp2_with fail
  refine (HD.out _).mono ?_
  rintro e w2 ⟨rfl, hb⟩
  have HB2 := Lib.hid (bthen HB.out HB.out.size hb)
  clear hb HB HS1 HS2 HT HD
  go_wp2
  go_ret2
  exact ⟨ret_two (by first | rfl | omega | kernel_rfl | decide) rfl, HB2.out⟩
theorem rmul_s2 (a b x y : Int) (Z : Big) (N : Int) (htest : (decide (a < 0) == decide (b < 0)) = true) (h : N = 9223372036854775808)
    (HS1 : Hid (∀ w, Calls Try.prog 35 #[.int .i64 a] w fun e w' => e = .returned (.int .u64 x) ∧ w = w'))
    (HS2 : Hid (∀ w, Calls Try.prog 35 #[.int .i64 b] w fun e w' => e = .returned (.int .u64 y) ∧ w = w'))
    (HT : Hid (∀ w, Calls Try.prog 34 #[.int .u64 x, .int .u64 y] w fun e w' => e = .returned (bigV Z) ∧ Below w.heap.size w w'))
    (HD : Hid (∀ w, Calls Try.prog 33 #[bigV Z, .int .i64 0] w fun e w' => e = .returned (.tuple #[.int .u64 (N), .bool true]) ∧ Below w.heap.size w w')) (w : World) :
    Calls Try.prog 27 #[.int .i64 a, .int .i64 b] w fun e w' => e = .returned (.tuple #[.int .i64 (0), .int .i64 5]) ∧ Below w.heap.size w w' := by
  go_enter Try.func27, Try.ntmps27
  go_wp2_with fail
  refine (HS1.out _).mono ?_
  rintro e w' ⟨rfl, rfl⟩
  go_wp2_with fail
  refine (HS2.out _).mono ?_
  rintro e w' ⟨rfl, rfl⟩
  go_wp2_with fail
  refine (HT.out _).mono ?_
  rintro e w1 ⟨rfl, hb⟩
  have HB := Lib.hid hb
  clear hb
  go_wp2_with fail
  refine (HD.out _).mono ?_
  rintro e w2 ⟨rfl, hb⟩
  have HB2 := Lib.hid (bthen HB.out HB.out.size hb)
  clear hb HB HS1 HS2 HT HD
  go_wp2
  go_ret2
  exact ⟨ret_two (by first | rfl | omega | kernel_rfl | decide) rfl, HB2.out⟩
theorem rmul_s3 (a b x y : Int) (Z : Big) (N : Int) (htest : (decide (a < 0) == decide (b < 0)) = true) (h : 0 ≤ N) (h2 : N < 9223372036854775808)
    (HS1 : Hid (∀ w, Calls Try.prog 35 #[.int .i64 a] w fun e w' => e = .returned (.int .u64 x) ∧ w = w'))
    (HS2 : Hid (∀ w, Calls Try.prog 35 #[.int .i64 b] w fun e w' => e = .returned (.int .u64 y) ∧ w = w'))
    (HT : Hid (∀ w, Calls Try.prog 34 #[.int .u64 x, .int .u64 y] w fun e w' => e = .returned (bigV Z) ∧ Below w.heap.size w w'))
    (HD : Hid (∀ w, Calls Try.prog 33 #[bigV Z, .int .i64 0] w fun e w' => e = .returned (.tuple #[.int .u64 (N), .bool true]) ∧ Below w.heap.size w w')) (w : World) :
    Calls Try.prog 27 #[.int .i64 a, .int .i64 b] w fun e w' => e = .returned (.tuple #[.int .i64 (N), .int .i64 0]) ∧ Below w.heap.size w w' := by
  go_enter Try.func27, Try.ntmps27
  go_wp2_with fail
  refine (HS1.out _).mono ?_
  rintro e w' ⟨rfl, rfl⟩
  go_wp2_with fail
  refine (HS2.out _).mono ?_
  rintro e w' ⟨rfl, rfl⟩
  go_wp2_with fail
  refine (HT.out _).mono ?_
  rintro e w1 ⟨rfl, hb⟩
  have HB := Lib.hid hb
  clear hb
  go_wp2_with fail
  refine (HD.out _).mono ?_
  rintro e w2 ⟨rfl, hb⟩
  have HB2 := Lib.hid (bthen HB.out HB.out.size hb)
  clear hb HB HS1 HS2 HT HD
  go_wp2
  go_ret2
  exact ⟨ret_two (by first | rfl | omega | kernel_rfl | decide) rfl, HB2.out⟩
theorem rmul_d2 (a b x y : Int) (Z : Big) (N : Int) (htest : (decide (a < 0) == decide (b < 0)) = false) (h : N = 9223372036854775808)
    (HS1 : Hid (∀ w, Calls Try.prog 35 #[.int .i64 a] w fun e w' => e = .returned (.int .u64 x) ∧ w = w'))
    (HS2 : Hid (∀ w, Calls Try.prog 35 #[.int .i64 b] w fun e w' => e = .returned (.int .u64 y) ∧ w = w'))
    (HT : Hid (∀ w, Calls Try.prog 34 #[.int .u64 x, .int .u64 y] w fun e w' => e = .returned (bigV Z) ∧ Below w.heap.size w w'))
    (HD : Hid (∀ w, Calls Try.prog 33 #[bigV Z, .int .i64 0] w fun e w' => e = .returned (.tuple #[.int .u64 (N), .bool true]) ∧ Below w.heap.size w w')) (w : World) :
    Calls Try.prog 27 #[.int .i64 a, .int .i64 b] w fun e w' => e = .returned (.tuple #[.int .i64 (-9223372036854775808), .int .i64 0]) ∧ Below w.heap.size w w' := by
  go_enter Try.func27, Try.ntmps27
  go_wp2_with fail
  refine (HS1.out _).mono ?_
  rintro e w' ⟨rfl, rfl⟩
  go_wp2_with fail
  refine (HS2.out _).mono ?_
  rintro e w' ⟨rfl, rfl⟩
  go_wp2_with fail
  refine (HT.out _).mono ?_
  rintro e w1 ⟨rfl, hb⟩
  have HB := Lib.hid hb
  clear hb
  go_wp2_with fail
  refine (HD.out _).mono ?_
  rintro e w2 ⟨rfl, hb⟩
  have HB2 := Lib.hid (bthen HB.out HB.out.size hb)
  clear hb HB HS1 HS2 HT HD
  go_wp2
  go_ret2
  exact ⟨ret_two (by first | rfl | omega | kernel_rfl | decide) rfl, HB2.out⟩
theorem rmul_d3 (a b x y : Int) (Z : Big) (N : Int) (htest : (decide (a < 0) == decide (b < 0)) = false) (h : 0 ≤ N) (h2 : N < 9223372036854775808)
    (HS1 : Hid (∀ w, Calls Try.prog 35 #[.int .i64 a] w fun e w' => e = .returned (.int .u64 x) ∧ w = w'))
    (HS2 : Hid (∀ w, Calls Try.prog 35 #[.int .i64 b] w fun e w' => e = .returned (.int .u64 y) ∧ w = w'))
    (HT : Hid (∀ w, Calls Try.prog 34 #[.int .u64 x, .int .u64 y] w fun e w' => e = .returned (bigV Z) ∧ Below w.heap.size w w'))
    (HD : Hid (∀ w, Calls Try.prog 33 #[bigV Z, .int .i64 0] w fun e w' => e = .returned (.tuple #[.int .u64 (N), .bool true]) ∧ Below w.heap.size w w')) (w : World) :
    Calls Try.prog 27 #[.int .i64 a, .int .i64 b] w fun e w' => e = .returned (.tuple #[.int .i64 (-N), .int .i64 0]) ∧ Below w.heap.size w w' := by
  go_enter Try.func27, Try.ntmps27
  go_wp2_with fail
  refine (HS1.out _).mono ?_
  rintro e w' ⟨rfl, rfl⟩
  go_wp2_with fail
  refine (HS2.out _).mono ?_
  rintro e w' ⟨rfl, rfl⟩
  go_wp2_with fail
  refine (HT.out _).mono ?_
  rintro e w1 ⟨rfl, hb⟩
  have HB := Lib.hid hb
  clear hb
  go_wp2_with fail
  refine (HD.out _).mono ?_
  rintro e w2 ⟨rfl, hb⟩
  have HB2 := Lib.hid (bthen HB.out HB.out.size hb)
  clear hb HB HS1 HS2 HT HD
  go_wp2
  go_ret2
  exact ⟨ret_two (by first | rfl | omega | kernel_rfl | decide) rfl, HB2.out⟩
theorem rmul_c (a b : Int) (ha : inI a) (hb : inI b) (w : World) : Calls Try.prog 27 #[.int .i64 a, .int .i64 b] w fun e w' => e = .returned (.tuple #[.int .i64 (okV (a * b)), .int .i64 (okE (a * b))]) ∧ Below w.heap.size w w' := by
  have HS1 := Lib.hid (rsize_c a ha)
  have HS2 := Lib.hid (rsize_c b hb)
  have k1 := natAbs_le ha
  have k2 := natAbs_le hb
  have HT := Lib.hid (times_c a.natAbs b.natAbs (by omega) (by omega))
  have hX : a.natAbs * b.natAbs < 2 ^ 160 := Nat.lt_of_le_of_lt (Nat.mul_le_mul (Nat.le_of_lt k1) (Nat.le_of_lt k2)) (by decide)
  have hd := down_c (a.natAbs * b.natAbs) 0 hX (by omega)
  rw [Nat.pow_zero, Nat.div_one] at hd
  have hP : a.natAbs * b.natAbs = (a * b).natAbs := (Int.natAbs_mul a b).symm
  have hs1 := @mul_yes a b
  have hs2 := @mul_no a b
  have htest : (decide (a < 0) == decide (b < 0)) = decide (a < 0 ↔ b < 0) := by by_cases h1 : a < 0 <;> by_cases h2 : b < 0 <;> simp [h1, h2]
  rcases Nat.lt_or_ge (a.natAbs * b.natAbs) 18446744073709551616 with hlt | hge
  · rw [show dwnV (a.natAbs * b.natAbs) = a.natAbs * b.natAbs by unfold dwnV; rw [if_pos hlt], decide_eq_true hlt] at hd
    obtain ⟨Z, hZ⟩ : ∃ Z, Z = ofB (a.natAbs * b.natAbs) := ⟨_, rfl⟩
    rw [← hZ] at HT hd
    clear hZ
    rw [hP] at hd hlt
    obtain ⟨N, hN⟩ : ∃ N : Int, N = ((a * b).natAbs : Nat) := ⟨_, rfl⟩
    rw [← hN] at hd
    have HD := Lib.hid hd
    obtain ⟨p, hp⟩ : ∃ p, p = a * b := ⟨_, rfl⟩
    rw [← hp] at hN hs1 hs2 hlt ⊢
    by_cases hs : (a < 0 ↔ b < 0)
    · have hp0 := hs2 hs
      rw [decide_eq_true hs] at htest
      rcases Int.lt_or_le 9223372036854775807 N with h | h
      · have hf : fits p = false := by rw [← Bool.not_eq_true, fits_iff]; omega
        rw [okV_no hf, okE_no hf]
        rcases Int.lt_or_le 9223372036854775808 N with h2 | h2
        · exact rmul_s1 a b _ _ Z N htest h2 (by omega) HS1 HS2 HT HD w
        · exact rmul_s2 a b _ _ Z N htest (by omega) HS1 HS2 HT HD w
      · have hf : fits p = true := by rw [fits_iff]; omega
        rw [okV_yes hf, okE_yes hf, show p = N by omega]
        exact rmul_s3 a b _ _ Z N htest (by omega) (by omega) HS1 HS2 HT HD w
    · have hp0 := hs1 hs
      rw [decide_eq_false hs] at htest
      rcases Int.lt_or_le 9223372036854775808 N with h | h
      · have hf : fits p = false := by rw [← Bool.not_eq_true, fits_iff]; omega
        rw [okV_no hf, okE_no hf]
        exact rmul_d1 a b _ _ Z N htest h (by omega) HS1 HS2 HT HD w
      · have hf : fits p = true := by rw [fits_iff]; omega
        rw [okV_yes hf, okE_yes hf]
        by_cases h2 : N = 9223372036854775808
        · rw [show p = -9223372036854775808 by omega]
          exact rmul_d2 a b _ _ Z N htest h2 HS1 HS2 HT HD w
        · rw [show p = -N by omega]
          exact rmul_d3 a b _ _ Z N htest (by omega) (by omega) HS1 HS2 HT HD w
  · rw [show dwnV (a.natAbs * b.natAbs) = 0 by unfold dwnV; rw [if_neg (by omega)], decide_eq_false (by omega)] at hd
    obtain ⟨Z, hZ⟩ : ∃ Z, Z = ofB (a.natAbs * b.natAbs) := ⟨_, rfl⟩
    rw [← hZ] at HT hd
    clear hZ
    have HD := Lib.hid hd
    have hf : fits (a * b) = false := by rw [← Bool.not_eq_true, fits_iff]; omega
    rw [okV_no hf, okE_no hf]
    by_cases hs : (a < 0 ↔ b < 0)
    · rw [decide_eq_true hs] at htest
      exact rmul_s0 a b _ _ Z htest HS1 HS2 HT HD w
    · rw [decide_eq_false hs] at htest
      exact rmul_d0 a b _ _ Z htest HS1 HS2 HT HD w
end Go.Proofs.Ythoagfoekopioaa
