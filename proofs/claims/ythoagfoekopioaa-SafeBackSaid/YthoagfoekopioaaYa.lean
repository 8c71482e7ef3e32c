/- Safe: the laws SafeHalves, SafeBack, SafeSums: their walks. -/
import Derived.Test.YthoagfoekopioaaY9
set_option linter.unusedVariables false
namespace Go.Proofs.Ythoagfoekopioaa
open Go.RowKit Go.Sort

set_option maxHeartbeats 1000000 in
theorem safeHalves_w (n k j : Int) (hn : inI n) (hk : 0 ≤ k ∧ k ≤ 255) (hj : 0 ≤ j ∧ j ≤ 255) (w : World) : Calls Try.prog 4 #[.int .i64 n, .int .u8 k, .int .u8 j] w fun e w' => e = .returned (.bool true) ∧ Below w.heap.size w w' := by
  have hx0 := halves_in n k hn
  have c1 := halves_c n k hn
  have c2 := halves_c (halvesV n k) j hx0
  have c3 := halves_c n (k + j) hn
  have hy := halves_bounds n (k + j)
  have hxy : k + j ≤ 62 → halvesV (halvesV n k) j = halvesV n (k + j) := fun h => by
    obtain ⟨a, rfl⟩ := Int.eq_ofNat_of_zero_le hk.1
    obtain ⟨b, rfl⟩ := Int.eq_ofNat_of_zero_le hj.1
    exact law_halves n a b (by omega)
  obtain ⟨x, hxe⟩ : ∃ x, x = halvesV (halvesV n k) j := ⟨_, rfl⟩
  obtain ⟨y, hye⟩ : ∃ y, y = halvesV n (k + j) := ⟨_, rfl⟩
  rw [← hxe] at c2 hxy
  rw [← hye] at c3 hy hxy
  generalize halvesV n k = x0 at *
  have C1 := Lib.hid c1
  have C2 := Lib.hid c2
  have C3 := Lib.hid c3
  clear c1 c2 c3 hxe hye hx0 hn
  obtain ⟨g, hg⟩ : ∃ g : Bool, g = decide (62 < k + j) := ⟨_, rfl⟩
  have htest : (x == y) = true ∨ ((x == y) = false ∧ 62 < k + j) := by
    by_cases h : k + j ≤ 62
    · left; simp [hxy h]
    · by_cases e : x = y
      · left; simp [e]
      · right; constructor
        · simp [e]
        · omega
  clear hg hxy
  by_cases hn0 : 0 ≤ n
  · obtain ⟨y0, y1⟩ := hy.1 hn0
    clear hy
    rcases htest with h | ⟨h, h2⟩
    all_goals
      go_enter Try.func4, Try.ntmps4
      go_wp2_with fail
      refine (C1.out _).mono ?_
      rintro e w' ⟨rfl, rfl⟩
      go_wp2_with fail
      refine (C2.out _).mono ?_
      rintro e w' ⟨rfl, rfl⟩
      go_wp2_with fail
      refine (C3.out _).mono ?_
      rintro e w' ⟨rfl, rfl⟩
      go_wp2_with fail
      refine (alive02 _).mono ?_
      rintro e w1 ⟨rfl, hbl⟩
      have HB := Lib.hid hbl
      clear hbl
      go_wp2
      go_ret
      exact ⟨rfl, HB.out⟩
  · obtain ⟨y0, y1⟩ := hy.2 (by omega)
    clear hy
    have hn1 : n < 0 := by omega
    clear hn0
    rcases htest with h | ⟨h, h2⟩
    all_goals
      go_enter Try.func4, Try.ntmps4
      go_wp2_with fail
      refine (C1.out _).mono ?_
      rintro e w' ⟨rfl, rfl⟩
      go_wp2_with fail
      refine (C2.out _).mono ?_
      rintro e w' ⟨rfl, rfl⟩
      go_wp2_with fail
      refine (C3.out _).mono ?_
      rintro e w' ⟨rfl, rfl⟩
      go_wp2_with fail
      refine (alive02 _).mono ?_
      rintro e w1 ⟨rfl, hbl⟩
      have HB := Lib.hid hbl
      clear hbl
      go_wp2
      go_ret
      exact ⟨rfl, HB.out⟩

/-! ### SafeBack -/
set_option maxRecDepth 100000 in
set_option maxHeartbeats 4000000 in
theorem safeBack_w (a b : Int) (ha : inI a) (hb : inI b) (w : World) : Calls Try.prog 7 #[.int .i64 a, .int .i64 b] w fun e w' => e = .returned (.bool true) ∧ Below w.heap.size w w' := by
  have c1 := add_c a b ha hb
  have c3 := mul_c a b ha hb
  have c4 := mul_c b a hb ha
  rw [Int.mul_comm b a] at c4
  have hwa : IntKind.i64.wrap a = a := by unfold inI at ha; rw [IntKind.wrap_i64]; omega
  cases hf : fits (a + b)
  · rw [okV_no hf, okE_no hf] at c1
    have C1 := Lib.hid c1
    clear c1 hf
    cases hm : fits (a * b)
    · rw [okV_no hm, okE_no hm] at c3 c4
      have C3 := Lib.hid c3
      have C4 := Lib.hid c4
      clear c3 c4 hm ha hb hwa
      go_enter Try.func7, Try.ntmps7
      go_wp2_with fail
      refine (C1.out _).mono ?_
      rintro e w' ⟨rfl, rfl⟩
      go_wp2_with fail
      refine (C3.out _).mono ?_
      rintro e w' ⟨rfl, rfl⟩
      go_wp2_with fail
      refine (C4.out _).mono ?_
      rintro e w' ⟨rfl, rfl⟩
      go_wp2_with fail
      refine (alive02 _).mono ?_
      rintro e w1 ⟨rfl, hbl⟩
      have HB := Lib.hid hbl
      clear hbl
      go_wp2
      go_ret
      exact ⟨rfl, HB.out⟩
    · by_cases hb0 : b = 0
      · subst hb0
        have e : okV (a * 0) = 0 := by rw [Int.mul_zero]; decide
        rw [e, okE_yes hm] at c3 c4
        have C3 := Lib.hid c3
        have C4 := Lib.hid c4
        clear c3 c4 hm ha hb hwa e
        go_enter Try.func7, Try.ntmps7
        go_wp2_with fail
        refine (C1.out _).mono ?_
        rintro e w' ⟨rfl, rfl⟩
        go_wp2_with fail
        refine (C3.out _).mono ?_
        rintro e w' ⟨rfl, rfl⟩
        go_wp2_with fail
        refine (C4.out _).mono ?_
        rintro e w' ⟨rfl, rfl⟩
        go_wp2_with fail
        refine (alive02 _).mono ?_
        rintro e w1 ⟨rfl, hbl⟩
        have HB := Lib.hid hbl
        clear hbl
        go_wp2
        go_ret
        exact ⟨rfl, HB.out⟩
      · obtain ⟨d1, d2⟩ := law_back_mul hm hb0
        rw [okE_yes hm] at c3 c4
        obtain ⟨p, hp⟩ : ∃ p, p = okV (a * b) := ⟨_, rfl⟩
        rw [← hp] at d1 d2 c3 c4
        have C3 := Lib.hid c3
        have C4 := Lib.hid c4
        have hbz : (b == 0) = false := by simpa using hb0
        clear c3 c4 hm ha hb hp
        go_enter Try.func7, Try.ntmps7
        go_wp2_with fail
        refine (C1.out _).mono ?_
        rintro e w' ⟨rfl, rfl⟩
        go_wp2_with fail
        refine (C3.out _).mono ?_
        rintro e w' ⟨rfl, rfl⟩
        go_wp2_with fail
        refine (C4.out _).mono ?_
        rintro e w' ⟨rfl, rfl⟩
        go_wp2_with fail
        refine (alive02 _).mono ?_
        rintro e w1 ⟨rfl, hbl⟩
        have HB := Lib.hid hbl
        clear hbl
        go_wp2
        go_ret
        exact ⟨rfl, HB.out⟩
  · have hfa : fits a = true := by rw [fits_iff]; exact ha
    have c2 := sub_c (okV (a + b)) b (okV_in _) hb
    rw [okV_yes hf, Int.add_sub_cancel, okV_yes hfa, okE_yes hfa] at c2
    rw [okV_yes hf, okE_yes hf] at c1
    generalize a + b = s at c1 c2
    have C1 := Lib.hid c1
    have C2 := Lib.hid c2
    clear c1 c2 hf hfa
    cases hm : fits (a * b)
    · rw [okV_no hm, okE_no hm] at c3 c4
      have C3 := Lib.hid c3
      have C4 := Lib.hid c4
      clear c3 c4 hm ha hb hwa
      go_enter Try.func7, Try.ntmps7
      go_wp2_with fail
      refine (C1.out _).mono ?_
      rintro e w' ⟨rfl, rfl⟩
      go_wp2_with fail
      refine (C2.out _).mono ?_
      rintro e w' ⟨rfl, rfl⟩
      go_wp2_with fail
      refine (C3.out _).mono ?_
      rintro e w' ⟨rfl, rfl⟩
      go_wp2_with fail
      refine (C4.out _).mono ?_
      rintro e w' ⟨rfl, rfl⟩
      go_wp2_with fail
      refine (alive02 _).mono ?_
      rintro e w1 ⟨rfl, hbl⟩
      have HB := Lib.hid hbl
      clear hbl
      go_wp2
      go_ret
      exact ⟨rfl, HB.out⟩
    · by_cases hb0 : b = 0
      · subst hb0
        have e : okV (a * 0) = 0 := by rw [Int.mul_zero]; decide
        rw [e, okE_yes hm] at c3 c4
        have C3 := Lib.hid c3
        have C4 := Lib.hid c4
        clear c3 c4 hm ha hb hwa e
        go_enter Try.func7, Try.ntmps7
        go_wp2_with fail
        refine (C1.out _).mono ?_
        rintro e w' ⟨rfl, rfl⟩
        go_wp2_with fail
        refine (C2.out _).mono ?_
        rintro e w' ⟨rfl, rfl⟩
        go_wp2_with fail
        refine (C3.out _).mono ?_
        rintro e w' ⟨rfl, rfl⟩
        go_wp2_with fail
        refine (C4.out _).mono ?_
        rintro e w' ⟨rfl, rfl⟩
        go_wp2_with fail
        refine (alive02 _).mono ?_
        rintro e w1 ⟨rfl, hbl⟩
        have HB := Lib.hid hbl
        clear hbl
        go_wp2
        go_ret
        exact ⟨rfl, HB.out⟩
      · obtain ⟨d1, d2⟩ := law_back_mul hm hb0
        rw [okE_yes hm] at c3 c4
        obtain ⟨p, hp⟩ : ∃ p, p = okV (a * b) := ⟨_, rfl⟩
        rw [← hp] at d1 d2 c3 c4
        have C3 := Lib.hid c3
        have C4 := Lib.hid c4
        have hbz : (b == 0) = false := by simpa using hb0
        clear c3 c4 hm ha hb hp
        go_enter Try.func7, Try.ntmps7
        go_wp2_with fail
        refine (C1.out _).mono ?_
        rintro e w' ⟨rfl, rfl⟩
        go_wp2_with fail
        refine (C2.out _).mono ?_
        rintro e w' ⟨rfl, rfl⟩
        go_wp2_with fail
        refine (C3.out _).mono ?_
        rintro e w' ⟨rfl, rfl⟩
        go_wp2_with fail
        refine (C4.out _).mono ?_
        rintro e w' ⟨rfl, rfl⟩
        go_wp2_with fail
        refine (alive02 _).mono ?_
        rintro e w1 ⟨rfl, hbl⟩
        have HB := Lib.hid hbl
        clear hbl
        go_wp2
        go_ret
        exact ⟨rfl, HB.out⟩
/-! ### SafeSums -/
set_option maxRecDepth 100000 in
set_option maxHeartbeats 4000000 in
theorem safeSums_w (A : Option Addr) (n c : Nat) (xs : List Int) (x y z : Int) (hx : ∀ x ∈ xs, inI x) (w : World) (hR : ReadsI w A n xs) : Calls Try.prog 6 #[.slice A n c, .agg #[.int .i64 x, .int .i64 y, .int .i64 z]] w fun e w' => e = .returned (.bool true) ∧ Below w.heap.size w w' := by
  have hb : Below w.heap.size w (w.alloc (.cells #[.int .i64 x, .int .i64 y, .int .i64 z] 39)) := (Below.refl _ _).alloc (Nat.le_refl _) _
  have HR := Lib.hid (hR.below hb)
  have HB := Lib.hid hb
  have HX := Lib.hid hx
  clear hR hx hb
  have hcell : ∀ o, (w.alloc (.cells #[.int .i64 x, .int .i64 y, .int .i64 z] 39)).cell? ⟨w.heap.size, o, none⟩ = (#[.int .i64 x, .int .i64 y, .int .i64 z] : Array Value)[o]? := fun o => cell_of_row _ w.heap.size o _ 39 (0, 0) (heap_alloc_new w _)
  have HC := Lib.hid hcell
  clear hcell
  go_enter Try.func6, Try.ntmps6
  go_wp2_with fail
  refine (ssum_c A n c xs _ HR.out HX.out).mono ?_
  rintro e w' ⟨rfl, rfl⟩
  go_wp2_with fail
  refine (rsum_c A n c xs _ HR.out HX.out).mono ?_
  rintro e w' ⟨rfl, rfl⟩
  go_wp2_with fail
  refine region_b (fun W2 => (∀ o, W2.cell? ⟨w.heap.size, o, none⟩ = (#[.int .i64 x, .int .i64 y, .int .i64 z] : Array Value)[o]?) ∧ w.heap.size < W2.heap.size ∧ Below w.heap.size w W2) (by kernel_rfl) (by kernel_rfl) ⟨HC.out, by simp, HB.out⟩ ?_
  clear HR HB HX HC
  rintro W2 ⟨h1, h2, h3⟩
  have r1 := cells_on h1 h2
  have H3 := Lib.hid h3
  clear h1 h3
  repeat (first | go_big_quiet_step (first | with_reducible exact Calls.regrown_of (same_below (clamp_c _ _ _ _)) | with_reducible exact Calls.regrown_of (same_below (rclamp_c _ _ _ _)) | with_reducible exact Calls.regrown_of (alive02 _)) | quiet_step (first | with_reducible exact Calls.regrown_of (same_below (clamp_c _ _ _ _)) | with_reducible exact Calls.regrown_of (same_below (rclamp_c _ _ _ _)) | with_reducible exact Calls.regrown_of (alive02 _)))
  refine wpQuiet_nil ?_
  intro w2 hb2
  go_wp2
  go_ret
  exact ⟨rfl, bthen H3.out (by omega) hb2⟩
end Go.Proofs.Ythoagfoekopioaa
