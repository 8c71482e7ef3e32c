/- The walks of the reference's functions on sets: power, Has, with, Of, Ints. -/
import Derived.Test.YtmhbblkihjmonaaDoorB5
set_option linter.unusedVariables false
namespace Go.Proofs.YtmhbblkihjmonaaDoor
open Go.RowKit

theorem power_c (n : Nat) (hn : n < 64) (w : World) :
    Calls Tryd.prog 58 #[.int .i64 (n : Int)] w fun e w' => e = .returned (.int .u64 ((2 ^ n : Nat) : Int)) ∧ w = w' := by
  go_enter Tryd.func58, Tryd.ntmps58
  go_wp2_with fail
  go_loop [3, 4] (fun p i => ∃ k : Nat, k ≤ n ∧ i = .int .i64 k ∧ p = .int .u64 ((2 ^ k : Nat) : Int)) (fun _ i => n - (intOf i).toNat)
  case atStart => exact ⟨0, by omega, rfl, rfl⟩
  case round =>
    obtain ⟨k, hk, rfl, rfl⟩ := hrel
    by_cases hlt : k < n
    · have hp : 2 ^ (k + 1) < 2 ^ 64 := Nat.pow_lt_pow_right (by decide) (by omega)
      have e : IntKind.u64.wrap (2 ^ k * 2) = ((2 ^ (k + 1) : Nat) : Int) := by
        rw [show (2 : Int) ^ k * 2 = ((2 ^ (k + 1) : Nat) : Int) by simp [Int.pow_succ], wrap_u64_nat (by omega)]
      have HP := Lib.hid hp
      clear hp
      go_wp2
      go_round
      case rel => exact ⟨k + 1, by omega, by go_num, rfl⟩
      case measure => simp [intOf]; omega
    · obtain rfl : k = n := by omega
      go_wp2
      go_ret
      exact ⟨rfl, rfl⟩

theorem rhas_core (s : NS) (q r p y z : Nat) (i : Int) (b : Bool) (hq : q < 4) (hr : r < 64) (hp : p = 2 ^ r) (h0 : 0 ≤ i) (h1 : i < 256) (e1 : i.tdiv 64 = (q : Int)) (e2 : i.tmod 64 = (r : Int)) (e3 : IntKind.i64.wrap (q : Int) = (q : Int))
    (p0 : ¬ p = 0) (e4 : ((wn s q : Nat) : Int).tdiv (p : Int) = (y : Int)) (e5 : IntKind.u64.wrap (y : Int) = (y : Int)) (e6 : (y : Int).tmod 2 = (z : Int)) (e7 : ((z : Int) == 1) = b) (w : World) :
    Calls Tryd.prog 30 #[nsV s, .int .i64 i] w fun e w' => e = .returned (.bool b) ∧ Below w.heap.size w w' := by
  have g1 := ns_get s q hq
  have l1 : (q : Int) < 4 := by omega
  have l2 : 0 ≤ (q : Int) := by omega
  have HP : Hid (∀ w, Calls Tryd.prog 58 #[.int .i64 (r : Int)] w fun e w' => e = .returned (.int .u64 ((p : Nat) : Int)) ∧ w' = w) := Lib.hid fun w => by rw [hp]; exact still_of (power_c r hr w)
  clear hr hq hp
  go_enter Tryd.func30, Tryd.ntmps30
  go_wp2_with fail
  go_quiet ((go_at_call 58; exact Calls.quiet_of_same (HP.out _)))
  go_wp2
  go_ret
  exact ⟨rfl, below_drewN ((Below.refl _ _).alloc (Nat.le_refl _) _) _⟩

theorem tdiv_nat (a b : Nat) : ((a : Int).tdiv (b : Int)) = ((a / b : Nat) : Int) := by rw [Int.tdiv_eq_ediv_of_nonneg (by omega)]; exact div_cast a b
theorem tmod_nat (a b : Nat) : ((a : Int).tmod (b : Int)) = ((a % b : Nat) : Int) := by rw [Int.tmod_eq_emod_of_nonneg (by omega)]; simp
theorem split64 (i : Int) (h0 : 0 ≤ i) (h1 : i ≤ 255) : ∃ q r : Nat, i = ((64 * q + r : Nat) : Int) ∧ q < 4 ∧ r < 64 ∧ i.tdiv 64 = (q : Int) ∧ i.tmod 64 = (r : Int) ∧ IntKind.i64.wrap (q : Int) = (q : Int) := by
  obtain ⟨n, rfl⟩ := Int.eq_ofNat_of_zero_le h0
  refine ⟨n / 64, n % 64, by rw [Nat.div_add_mod], by omega, by omega, tdiv_nat n 64, tmod_nat n 64, by rw [IntKind.wrap_i64]; omega⟩
theorem rhas_in (s : NS) (i : Int) (h0 : 0 ≤ i) (h1 : i ≤ 255) (w : World) :
    Calls Tryd.prog 30 #[nsV s, .int .i64 i] w fun e w' => e = .returned (.bool (hasS s i)) ∧ Below w.heap.size w w' := by
  obtain ⟨q, r, hi, hq, hr, e1, e2, e3⟩ := split64 i h0 h1
  refine rhas_core s q r (2 ^ r) (wn s q / 2 ^ r) (wn s q / 2 ^ r % 2) i _ hq hr rfl h0 (by omega) e1 e2 e3 (by have := Nat.two_pow_pos r; omega) (tdiv_nat _ _) (wrap_u64_nat (by have := wn_le s q; have := Nat.div_le_self (wn s q) (2 ^ r); omega)) (tmod_nat _ 2) ?_ w
  rw [hi, hasS_nat, bit_wn, show (64 * q + r) / 64 = q by omega, show (64 * q + r) % 64 = r by omega, Nat.testBit_eq_decide_div_mod_eq]
  rw [Bool.eq_iff_iff, beq_iff_eq, decide_eq_true_eq]
  omega
theorem rhas_lo (s : NS) (i : Int) (h : i < 0) (w : World) :
    Calls Tryd.prog 30 #[nsV s, .int .i64 i] w fun e w' => e = .returned (.bool (hasS s i)) ∧ Below w.heap.size w w' := by
  have hd : decide (0 ≤ i) = false := decide_eq_false (by omega)
  have hr := hasS_neg s h
  have HR := Lib.hid hr
  clear hr
  go_enter Tryd.func30, Tryd.ntmps30
  go_wp2_with fail
  go_quiet (fail)
  go_wp2
  go_ret
  exact ⟨ret_bool HR.out.symm, below_drewN ((Below.refl _ _).alloc (Nat.le_refl _) _) _⟩
theorem rhas_hi (s : NS) (i : Int) (h : 255 < i) (w : World) :
    Calls Tryd.prog 30 #[nsV s, .int .i64 i] w fun e w' => e = .returned (.bool (hasS s i)) ∧ Below w.heap.size w w' := by
  have hd : decide (i < 256) = false := decide_eq_false (by omega)
  have h0 : 0 ≤ i := by omega
  have hr := hasS_big s h
  have HR := Lib.hid hr
  clear hr
  go_enter Tryd.func30, Tryd.ntmps30
  go_wp2_with fail
  go_quiet (fail)
  go_wp2
  go_ret
  exact ⟨ret_bool HR.out.symm, below_drewN ((Below.refl _ _).alloc (Nat.le_refl _) _) _⟩
theorem rhas_c (s : NS) (i : Int) (w : World) :
    Calls Tryd.prog 30 #[nsV s, .int .i64 i] w fun e w' => e = .returned (.bool (hasS s i)) ∧ Below w.heap.size w w' := by
  by_cases a : i < 0
  · exact rhas_lo s i a w
  · by_cases b : 255 < i
    · exact rhas_hi s i b w
    · exact rhas_in s i (by omega) (by omega) w

/-! ### with -/
theorem with_no (s : NS) (i : Int) (h : i < 0 ∨ 255 < i) (w : World) :
    Calls Tryd.prog 53 #[nsV s, .int .i64 i] w fun e w' => e = .returned (nsV s) ∧ Below w.heap.size w w' := by
  rcases h with h | h
  all_goals
    go_enter Tryd.func53, Tryd.ntmps53
    go_wp2_with fail
    exact post_cell rfl rfl (Blk.new' (by simp)) Tryd.underlying24 rfl (by kernel_rfl) rfl ⟨rfl, ((Below.refl _ _).alloc (by simp) _).alloc (by simp) _⟩
theorem with_old (s : NS) (i : Int) (h0 : 0 ≤ i) (h1 : i < 256) (h : hasS s i = true) (w : World) :
    Calls Tryd.prog 53 #[nsV s, .int .i64 i] w fun e w' => e = .returned (nsV s) ∧ Below w.heap.size w w' := by
  have hc := fun w => rhas_c s i w
  rw [h] at hc
  have HC := Lib.hid hc
  clear hc h
  go_enter Tryd.func53, Tryd.ntmps53
  go_wp2_with fail
  refine (HC.out _).mono ?_
  rintro e w1 ⟨rfl, hb⟩
  have h0 : Blk w1 w.heap.size 24 (nsA s) := Blk.after ((Blk.new' (by simp)).alloc _) hb
  have h3 : Blk w1 (w.heap.size + 1) 24 #[.int .u64 0, .int .u64 0, .int .u64 0, .int .u64 0] := Blk.after (Blk.new' (by simp)) hb
  have HL := Lib.hid (below_then (((Below.refl w.heap.size w).alloc (by simp) _).alloc (by simp) _) (by simp; omega) hb)
  obtain ⟨q1, q2, q3⟩ := h0.rules
  obtain ⟨r1, r2, r3⟩ := h3.rules
  have H3 := Lib.hid h3
  clear h3 hb h0
  go_wp2
  exact post_cell rfl rfl (H3.out.four _ _ _ _) Tryd.underlying24 rfl (by kernel_rfl) rfl ⟨rfl, below_four HL.out (by omega) _ _ _ _⟩
set_option maxHeartbeats 1000000 in
theorem with_core (s : NS) (q r p y : Nat) (i : Int) (h0 : 0 ≤ i) (h1 : i < 256) (h : hasS s i = false) (hq : q < 4) (hr : r < 64) (hp : p = 2 ^ r) (e1 : i.tdiv 64 = (q : Int)) (e2 : i.tmod 64 = (r : Int)) (e3 : IntKind.i64.wrap (q : Int) = (q : Int))
    (e4 : IntKind.u64.wrap (((wn s q : Nat) : Int) + (p : Int)) = (y : Int)) (hy : y = wn s q ||| 2 ^ r) (w : World) :
    Calls Tryd.prog 53 #[nsV s, .int .i64 i] w fun e w' => e = .returned (nsV (withS s ((64 * q + r : Nat) : Int))) ∧ Below w.heap.size w w' := by
  have hc := fun w => rhas_c s i w
  rw [h] at hc
  have HC := Lib.hid hc
  have HP : Hid (∀ w, Calls Tryd.prog 58 #[.int .i64 (r : Int)] w fun e w' => e = .returned (.int .u64 ((p : Nat) : Int)) ∧ w' = w) := Lib.hid fun w => by rw [hp]; exact still_of (power_c r hr w)
  have g1 := ns_get s q hq
  have l1 : (q : Int) < 4 := by omega
  have l2 : 0 ≤ (q : Int) := by omega
  have HQ := Lib.hid hq; have HR := Lib.hid hr; have HY := Lib.hid hy
  clear hc h hq hr hp hy
  go_enter Tryd.func53, Tryd.ntmps53
  go_wp2_with fail
  refine (HC.out _).mono ?_
  rintro e w1 ⟨rfl, hb⟩
  have h4 : Blk w1 w.heap.size 24 (nsA s) := Blk.after ((Blk.new' (by simp)).alloc _) hb
  have h3 : Blk w1 (w.heap.size + 1) 24 #[.int .u64 0, .int .u64 0, .int .u64 0, .int .u64 0] := Blk.after (Blk.new' (by simp)) hb
  have HL := Lib.hid (below_then (((Below.refl w.heap.size w).alloc (by simp) _).alloc (by simp) _) (by simp; omega) hb)
  obtain ⟨q1, q2, q3⟩ := h4.rules
  have H3 := Lib.hid h3
  have H4 := Lib.hid h4
  clear h3 hb h4
  go_wp2_with fail
  refine region_tail 9 (by kernel_rfl) (by kernel_rfl) ?_
  simp only [List.take_succ_cons, List.take_zero, List.drop_succ_cons, List.drop_zero]
  repeat still_step
  still_call (HP.out _)
  repeat still_step
  refine wpStill_nil ?_
  have h5 := (H4.out.word HQ.out HR.out (X := (y : Int)) (by rw [← HY.out])).drew
  have H5 := Lib.hid h5
  have z3 := (H3.out.far (p := ⟨w.heap.size, q, none⟩) (by dsimp only; omega) (.int .u64 (y : Int)))
  obtain ⟨r1, r2, r3⟩ := H3.out.rules
  have Z3 := Lib.hid z3
  clear z3 h5
  go_wp2_with (refine wpList_load_row rfl 24 _ rfl w.heap.size rfl 24 (nsA (withS s ((64 * q + r : Nat) : Int))) (0, 0) _ H5.out Tryd.underlying24 rfl (by kernel_rfl) ?_)
  exact post_cell rfl rfl (Z3.out.four _ _ _ _).drew Tryd.underlying24 rfl (by kernel_rfl) rfl ⟨rfl, (below_four (HL.out.setCell (by dsimp only; omega) _) (by omega) _ _ _ _).drew⟩
theorem bit_free (s : NS) (q r : Nat) (hr : r < 64) (h : s.getLsbD (64 * q + r) = false) : wn s q + 2 ^ r = wn s q ||| 2 ^ r := by
  have e : wn s q ||| 2 ^ r = 2 ^ r * (wn s q / 2 ^ r ||| 1) + wn s q % 2 ^ r := by
    apply Nat.eq_of_testBit_eq
    intro j
    rw [Nat.testBit_or, Nat.testBit_two_pow_mul_add _ (Nat.mod_lt _ (Nat.two_pow_pos r)), Nat.testBit_two_pow, Nat.testBit_mod_two_pow]
    by_cases hj : j < r
    · have : ¬ r = j := by omega
      simp [hj, this]
    · rw [if_neg hj, Nat.testBit_or, Nat.testBit_div_two_pow, show j - r + r = j by omega]
      congr 1
      by_cases e : r = j
      · subst e; simp
      · obtain ⟨d, hd⟩ : ∃ d, j - r = d + 1 := ⟨j - r - 1, by omega⟩
        rw [hd, Nat.testBit_succ]
        simp [e]
  have hb : wn s q / 2 ^ r % 2 = 0 := by
    rw [bit_wn, show (64 * q + r) / 64 = q by omega, show (64 * q + r) % 64 = r by omega, Nat.testBit_eq_decide_div_mod_eq, decide_eq_false_iff_not] at h
    omega
  have e2 : wn s q / 2 ^ r ||| 1 = wn s q / 2 ^ r + 1 := by
    generalize wn s q / 2 ^ r = a at *
    apply Nat.eq_of_testBit_eq
    intro j
    rw [Nat.testBit_or]
    cases j with
    | zero => simp [Nat.testBit_zero]; omega
    | succ j => rw [Nat.testBit_succ, Nat.testBit_succ, Nat.testBit_succ, show (a + 1) / 2 = a / 2 by omega]; simp
  rw [e, e2, Nat.mul_add, Nat.mul_one]
  have := Nat.div_add_mod (wn s q) (2 ^ r)
  omega
theorem with_c (s : NS) (i : Int) (w : World) :
    Calls Tryd.prog 53 #[nsV s, .int .i64 i] w fun e w' => e = .returned (nsV (withS s i)) ∧ Below w.heap.size w w' := by
  by_cases h : i < 0 ∨ 255 < i
  · rw [withS_out s i h]; exact with_no s i h w
  · cases hh : hasS s i with
    | true => rw [withS_in s i hh]; exact with_old s i (by omega) (by omega) hh w
    | false =>
      obtain ⟨q, r, hi, hq, hr, e1, e2, e3⟩ := split64 i (by omega) (by omega)
      have hf : s.getLsbD (64 * q + r) = false := by rw [hi, hasS_nat] at hh; exact hh
      have hs := bit_free s q r hr hf
      have hl : wn s q ||| 2 ^ r < 2 ^ 64 := Nat.or_lt_two_pow (wn_lt s q) (Nat.pow_lt_pow_right (by decide) hr)
      have hw := with_core s q r (2 ^ r) (wn s q ||| 2 ^ r) i (by omega) (by omega) hh hq hr rfl e1 e2 e3 (by rw [← Int.natCast_add, hs]; exact wrap_u64_nat (by omega)) rfl w
      rw [← hi] at hw
      exact hw

/-! ### Of, Ints -/
set_option maxHeartbeats 1000000 in
theorem rof_c (A : Option Addr) (n c : Nat) (xs : List Int) (w : World) (hR : ReadsI w A n xs) :
    Calls Tryd.prog 26 #[.slice A n c] w fun e w' => e = .returned (nsV (ofL xs)) ∧ Below w.heap.size w w' := by
  have hn := hR.2.1
  have hl := hR.1
  have HL0 := Lib.hid hl
  have HR := Lib.hid hR
  clear hR hl
  go_enter Tryd.func26, Tryd.ntmps26
  go_wp2_with fail
  go_loopw [4] (fun i wr => ∃ k : Nat, k ≤ n ∧ i = .int .i64 k ∧ Blk wr w.heap.size 24 #[.int .u64 0, .int .u64 0, .int .u64 0, .int .u64 0] ∧ Blk wr (w.heap.size + 1) 24 (nsA (ofL (xs.take k))) ∧ Below w.heap.size w wr) (fun i _ => n - (intOf i).toNat)
  case atStart =>
    refine ⟨0, by omega, rfl, (Blk.new' (by simp)).alloc _, ?_, ((Below.refl _ _).alloc (by simp) _).alloc (by simp) _⟩
    have e : nsA (ofL (xs.take 0)) = #[.int .u64 0, .int .u64 0, .int .u64 0, .int .u64 0] := by simp [nsA, ofL_nil, wn_empty]
    rw [e]
    exact Blk.new' (by simp)
  case round =>
    obtain ⟨k, hk, rfl, hB0, hB1, hbl⟩ := hrel
    have H0 := Lib.hid hB0; have H1 := Lib.hid hB1; have HL := Lib.hid hbl
    obtain ⟨r1, r2, r3⟩ := hB0.rules
    obtain ⟨q1, q2, q3⟩ := hB1.rules
    clear hB0 hB1 hbl
    by_cases hlt : k < n
    · obtain ⟨ad, rfl, hcell⟩ := HR.out.at_ HL.out hlt
      have hts := take_snoc xs k (by rw [HL0.out]; exact hlt)
      obtain ⟨x, hxe⟩ : ∃ x, xs.getD k 0 = x := ⟨_, rfl⟩
      rw [hxe] at hcell hts
      have HT := Lib.hid hts
      have l1 : (k : Int) < (n : Int) := by omega
      have l2 : 0 ≤ (k : Int) := by omega
      clear hts hxe r1 r2 r3
      go_wp2_with fail
      refine region_tail 5 (by kernel_rfl) (by kernel_rfl) ?_
      simp only [List.take_succ_cons, List.take_zero, List.drop_succ_cons, List.drop_zero]
      repeat still_step
      refine wpStill_nil ?_
      go_wp2_with fail
      refine (with_c _ _ _).mono ?_
      rintro e w1 ⟨rfl, hb⟩
      have b0 := H0.out.drew.after hb
      have b1 := H1.out.drew.after hb
      have HB0 := Lib.hid b0
      have HB1 := Lib.hid b1
      have HL2 := Lib.hid (below_then HL.out.drew HL.out.size hb)
      obtain ⟨s1, s2, s3⟩ := b1.rules
      clear b0 b1 hb q1 q2 q3
      go_wp2
      go_roundw
      case rel =>
        refine ⟨k + 1, by omega, by go_num, HB0.out.far4 (by omega) _ _ _ _, ?_, below_four HL2.out (by omega) _ _ _ _⟩
        rw [HT.out, ofL_snoc]
        exact HB1.out.four _ _ _ _
      case measure => simp [intOf]; omega
    · obtain rfl : k = n := by omega
      have e4 : xs.take k = xs := by rw [← HL0.out]; exact List.take_length
      rw [e4] at q1 H1
      clear e4
      go_wp2
      exact post_cell rfl rfl (H0.out.four _ _ _ _) Tryd.underlying24 rfl (by kernel_rfl) rfl ⟨rfl, below_four HL.out (by omega) _ _ _ _⟩

theorem getD_eq_of {xs ys : List Int} (hl : xs.length = ys.length) (h : ∀ j, j < xs.length → xs.getD j 0 = ys.getD j 0) : xs = ys := by
  apply List.ext_getElem hl
  intro j h1 h2
  have := h j h1
  simpa [List.getD_eq_getElem?_getD, List.getElem?_eq_getElem h1, List.getElem?_eq_getElem h2] using this
theorem ints_len (A B : Option Addr) (n c m d : Nat) (h : ((n : Int) != (m : Int)) = true) (w : World) :
    Calls Tryd.prog 38 #[.slice A n c, .slice B m d] w fun e w' => e = .returned (.bool false) ∧ Below w.heap.size w w' := by
  go_enter Tryd.func38, Tryd.ntmps38
  go_wp2_with fail
  go_ret
  exact ⟨rfl, Below.refl _ _⟩
set_option maxHeartbeats 1000000 in
theorem ints_same (A B : Option Addr) (n c d : Nat) (xs ys : List Int) (w : World) (hR : ReadsI w A n xs) (hS : ReadsI w B n ys) :
    Calls Tryd.prog 38 #[.slice A n c, .slice B n d] w fun e w' => e = .returned (.bool (decide (xs = ys))) ∧ Below w.heap.size w w' := by
  have hn := hR.2.1
  have HR := Lib.hid hR
  have HS := Lib.hid hS
  clear hR hS
  go_enter Tryd.func38, Tryd.ntmps38
  go_wp2_with fail
  go_loopw [5] (fun i wr => ∃ k m : Nat, k ≤ n ∧ i = .int .i64 k ∧ wr = w.drewN m ∧ ∀ j, j < k → xs.getD j 0 = ys.getD j 0) (fun i _ => n - (intOf i).toNat)
  case atStart => exact ⟨0, 0, by omega, rfl, rfl, fun j hj => absurd hj (by omega)⟩
  case round =>
    obtain ⟨k, m, hk, rfl, rfl, hall⟩ := hrel
    have HA := Lib.hid hall
    clear hall
    by_cases hlt : k < n
    · obtain ⟨ad, rfl, hc1⟩ := HR.out.at_ (Below.refl _ _) hlt
      obtain ⟨bd, rfl, hc2⟩ := HS.out.at_ (Below.refl _ _) hlt
      have l1 : (k : Int) < (n : Int) := by omega
      have l2 : 0 ≤ (k : Int) := by omega
      by_cases he : xs.getD k 0 = ys.getD k 0
      · have HE := Lib.hid he
        rw [he] at hc1
        obtain ⟨y, hy⟩ : ∃ y, ys.getD k 0 = y := ⟨_, rfl⟩
        rw [hy] at hc1 hc2
        clear he hy
        go_wp2_with fail
        go_quiet (fail)
        go_wp2
        go_roundw
        case rel =>
          refine ⟨k + 1, _, by omega, by go_num, rfl, fun j hj => ?_⟩
          by_cases e : j = k
          · rw [e]; exact HE.out
          · exact HA.out j (by omega)
        case measure => simp [intOf]; omega
      · have hf : decide (xs = ys) = false := decide_eq_false (fun e => he (by rw [e]))
        obtain ⟨x, hx⟩ : ∃ x, xs.getD k 0 = x := ⟨_, rfl⟩
        obtain ⟨y, hy⟩ : ∃ y, ys.getD k 0 = y := ⟨_, rfl⟩
        rw [hx] at hc1 he
        rw [hy] at hc2 he
        have hne : (x != y) = true := by simpa using he
        have HF := Lib.hid hf
        clear hx hy he hf
        go_wp2_with fail
        go_quiet (fail)
        go_wp2
        go_ret
        exact ⟨ret_bool HF.out.symm, below_drewN (below_drewN (Below.refl _ _) _) _⟩
    · obtain rfl : k = n := by omega
      have ht : decide (xs = ys) = true := decide_eq_true (getD_eq_of (by rw [HR.out.1, HS.out.1]) (fun j hj => HA.out j (by rw [HR.out.1] at hj; exact hj)))
      have HT := Lib.hid ht
      clear ht
      go_wp2
      go_ret
      exact ⟨ret_bool HT.out.symm, below_drewN (Below.refl _ _) _⟩
theorem ints_c (A B : Option Addr) (n c m d : Nat) (xs ys : List Int) (w : World) (hR : ReadsI w A n xs) (hS : ReadsI w B m ys) :
    Calls Tryd.prog 38 #[.slice A n c, .slice B m d] w fun e w' => e = .returned (.bool (decide (xs = ys))) ∧ Below w.heap.size w w' := by
  by_cases h : n = m
  · subst h; exact ints_same A B n c d xs ys w hR hS
  · have : decide (xs = ys) = false := decide_eq_false (fun e => h (by rw [← hR.1, ← hS.1, e]))
    rw [this]
    exact ints_len A B n c m d (by simp; omega) w
end Go.Proofs.YtmhbblkihjmonaaDoor
