/- Plain facts on words of 64 bits: their lists, the lowest bit, how many, turned round. No program in sight. -/
import Derived.Test.YtmhbblkihjmonaaDoorNs
import Derived.Lib.TrailingZeros
namespace Go.Proofs.YtmhbblkihjmonaaDoor
open Go

theorem risingN_ext : ∀ {l k : List Nat}, l.Pairwise (· < ·) → k.Pairwise (· < ·) → (∀ i, i ∈ l ↔ i ∈ k) → l = k := by
  intro l k hl hk h
  have e : l.map Int.ofNat = k.map Int.ofNat := by
    apply rising_ext
    · rw [List.pairwise_map]; exact hl.imp fun h => Int.ofNat_lt.2 h
    · rw [List.pairwise_map]; exact hk.imp fun h => Int.ofNat_lt.2 h
    · intro i
      simp only [List.mem_map]
      constructor
      · rintro ⟨n, hn, rfl⟩; exact ⟨n, (h n).1 hn, rfl⟩
      · rintro ⟨n, hn, rfl⟩; exact ⟨n, (h n).2 hn, rfl⟩
  exact List.map_inj_right (fun _ _ h => Int.ofNat.inj h) |>.1 e

/-- The places of a word's bits. -/
def wl (w : Nat) : List Nat := (List.range 64).filter fun j => w.testBit j
theorem mem_wl {w j : Nat} : j ∈ wl w ↔ j < 64 ∧ w.testBit j = true := by
  unfold wl; rw [List.mem_filter, List.mem_range]
theorem wl_sorted (w : Nat) : (wl w).Pairwise (· < ·) := List.Pairwise.filter _ List.pairwise_lt_range
theorem wl_zero : wl 0 = [] := List.eq_nil_iff_forall_not_mem.2 fun j h => by rw [mem_wl] at h; simp at h
theorem wl_length (w : Nat) : (wl w).length ≤ 64 := by
  have := List.length_filter_le (fun j => w.testBit j) (List.range 64)
  simpa [wl] using this

/-- The lowest bit: where it is, and what is left without it. -/
theorem low_bit {w : Nat} (h0 : w ≠ 0) (h : w < 2 ^ 64) : ∃ m, w = 2 ^ Lib.ctz 64 w * (2 * m + 1) ∧ Lib.ctz 64 w < 64 := by
  obtain ⟨m, hm, hk⟩ := Lib.ctzFrom_spec 64 w (by omega) h
  have e : Lib.ctz 64 w = Lib.ctzFrom 64 w := by simp [Lib.ctz, h0]
  rw [e]; exact ⟨m, hm, hk⟩
theorem odd_bit (k m j : Nat) : (2 ^ k * (2 * m + 1)).testBit j = (decide (j = k) || decide (k < j) && m.testBit (j - k - 1)) := by
  rw [Nat.mul_comm, Nat.testBit_mul_two_pow]
  by_cases h : k ≤ j
  · obtain ⟨d, rfl⟩ : ∃ d, j = k + d := ⟨j - k, by omega⟩
    rw [Nat.add_sub_cancel_left]
    cases d with
    | zero => simp [Nat.testBit_zero]
    | succ d =>
      rw [Nat.testBit_succ, show (2 * m + 1) / 2 = m by omega]
      simp
  · have h1 : ¬ j = k := by omega
    have h2 : ¬ k < j := by omega
    simp [h, h1, h2]
theorem ctz_bit {w : Nat} (h0 : w ≠ 0) (h : w < 2 ^ 64) : w.testBit (Lib.ctz 64 w) = true ∧ ∀ j, j < Lib.ctz 64 w → w.testBit j = false := by
  obtain ⟨m, hm, hk⟩ := low_bit h0 h
  constructor
  · rw [hm, ← hm, hm, odd_bit, ← hm]; simp
  · intro j hj
    rw [hm, odd_bit]
    have h1 : ¬ j = Lib.ctz 64 w := by omega
    have h2 : ¬ Lib.ctz 64 w < j := by omega
    simp [h1, h2]
theorem clear_low {w : Nat} (h0 : w ≠ 0) (h : w < 2 ^ 64) (j : Nat) : (w &&& (w - 1)).testBit j = (w.testBit j && !decide (j = Lib.ctz 64 w)) := by
  obtain ⟨m, hm, hk⟩ := low_bit h0 h
  generalize Lib.ctz 64 w = k at *
  have hp : 0 < 2 ^ k := Nat.two_pow_pos k
  have e : w - 1 = 2 ^ k * (2 * m) + (2 ^ k - 1) := by rw [hm, Nat.mul_add]; omega
  rw [Nat.testBit_and, e, hm, odd_bit, Nat.testBit_two_pow_mul_add (2 * m) (by omega : 2 ^ k - 1 < 2 ^ k), Nat.testBit_two_pow_sub_one]
  by_cases h1 : j < k
  · have h2 : ¬ j = k := by omega
    have h3 : ¬ k < j := by omega
    simp [h2, h3]
  · obtain ⟨d, rfl⟩ : ∃ d, j = k + d := ⟨j - k, by omega⟩
    rw [if_neg h1, Nat.add_sub_cancel_left]
    cases d with
    | zero => simp [Nat.testBit_zero]
    | succ d =>
      rw [Nat.testBit_succ, show 2 * m / 2 = m by omega]
      simp
theorem wl_cons {w : Nat} (h0 : w ≠ 0) (h : w < 2 ^ 64) : wl w = Lib.ctz 64 w :: wl (w &&& (w - 1)) := by
  obtain ⟨hb, hlow⟩ := ctz_bit h0 h
  obtain ⟨m, hm, hk⟩ := low_bit h0 h
  apply risingN_ext (wl_sorted w)
  · rw [List.pairwise_cons]
    refine ⟨fun j hj => ?_, wl_sorted _⟩
    rw [mem_wl, clear_low h0 h] at hj
    rcases Nat.lt_or_ge (Lib.ctz 64 w) j with h1 | h1
    · exact h1
    · exfalso
      have h2 := hj.2
      by_cases e : j = Lib.ctz 64 w
      · simp [e] at h2
      · rw [hlow j (by omega)] at h2; simp at h2
  · intro j
    rw [List.mem_cons, mem_wl, mem_wl, clear_low h0 h]
    constructor
    · rintro ⟨h1, h2⟩
      by_cases e : j = Lib.ctz 64 w
      · exact .inl e
      · exact .inr ⟨h1, by simp [h2, e]⟩
    · rintro (rfl | ⟨h1, h2⟩)
      · exact ⟨hk, hb⟩
      · simp at h2
        exact ⟨h1, h2.1⟩
theorem clear_lt {w : Nat} (h : w < 2 ^ 64) : w &&& (w - 1) < 2 ^ 64 := Nat.lt_of_le_of_lt Nat.and_le_left h
theorem wl_nil {w : Nat} (h : w < 2 ^ 64) (hn : wl w = []) : w = 0 := by
  apply Nat.eq_of_testBit_eq
  intro j
  by_cases hj : j < 64
  · cases hb : w.testBit j with
    | false => simp
    | true => have : j ∈ wl w := mem_wl.2 ⟨hj, hb⟩; rw [hn] at this; cases this
  · rw [Nat.testBit_lt_two_pow (Nat.lt_of_lt_of_le h (Nat.pow_le_pow_right (by decide) (by omega)))]; simp
/-- After j bits have been struck. -/
def strike : Nat → Nat → Nat
  | 0, w => w
  | j + 1, w => strike j (w &&& (w - 1))
theorem strike_lt : ∀ (j : Nat) {w : Nat}, w < 2 ^ 64 → strike j w < 2 ^ 64
  | 0, _, h => h
  | j + 1, _, h => strike_lt j (clear_lt h)
theorem strike_succ : ∀ (j w : Nat), strike (j + 1) w = strike j w &&& (strike j w - 1)
  | 0, _ => rfl
  | j + 1, w => strike_succ j (w &&& (w - 1))
theorem wl_strike : ∀ (j : Nat) {w : Nat}, w < 2 ^ 64 → wl (strike j w) = (wl w).drop j
  | 0, _, _ => rfl
  | j + 1, w, h => by
    show wl (strike j (w &&& (w - 1))) = _
    by_cases h0 : w = 0
    · subst h0
      rw [wl_strike j (by decide)]
      simp [wl_zero]
    · rw [wl_strike j (clear_lt h), wl_cons h0 h]; rfl

/-! ### a set's list out of its words -/
theorem range_add (a b : Nat) : List.range (a + b) = List.range a ++ (List.range b).map (a + ·) := List.range_add
theorem filter_word (s : NS) (k : Nat) : ((List.range 64).map (64 * k + ·)).filter (fun i => s.getLsbD i) = (wl (wn s k)).map (64 * k + ·) := by
  rw [List.filter_map]
  congr 1
  unfold wl
  apply List.filter_congr
  intro j hj
  rw [List.mem_range] at hj
  rw [wn_bit]
  simp [hj]
/-- The list of the first k words. -/
def lstTo (s : NS) : Nat → List Nat
  | 0 => []
  | k + 1 => lstTo s k ++ (wl (wn s k)).map (64 * k + ·)
theorem lstTo_range (s : NS) (k : Nat) : lstTo s k = (List.range (64 * k)).filter fun i => s.getLsbD i := by
  induction k with
  | zero => rfl
  | succ k ih => rw [lstTo, ih, Nat.mul_add, Nat.mul_one, range_add, List.filter_append, filter_word]
theorem lstTo_four (s : NS) : lstTo s 4 = lstN s := lstTo_range s 4
theorem lstTo_length (s : NS) (k : Nat) : (lstTo s k).length ≤ 64 * k := by
  rw [lstTo_range]
  have := List.length_filter_le (fun i => s.getLsbD i) (List.range (64 * k))
  simpa using this
theorem lstTo_prefix (s : NS) (k : Nat) (h : k ≤ 4) : lstTo s k <+: lstN s := by
  rw [← lstTo_four]
  rcases (show k = 0 ∨ k = 1 ∨ k = 2 ∨ k = 3 ∨ k = 4 by omega) with rfl | rfl | rfl | rfl | rfl
  · exact List.nil_prefix
  · exact ((List.prefix_append _ _).trans (List.prefix_append _ _)).trans (List.prefix_append _ _)
  · exact (List.prefix_append _ _).trans (List.prefix_append _ _)
  · exact List.prefix_append _ _
  · exact List.prefix_refl _
def cntTo (s : NS) (k : Nat) : Nat := (lstTo s k).length
theorem cntTo_four (s : NS) : cntTo s 4 = cnt s := by unfold cntTo cnt; rw [lstTo_four]
theorem cntTo_succ (s : NS) (k : Nat) : cntTo s (k + 1) = cntTo s k + (wl (wn s k)).length := by simp [cntTo, lstTo]
theorem cntTo_le (s : NS) (k : Nat) : cntTo s k ≤ 64 * k := lstTo_length s k

/-! ### how many bits: the parallel sum -/
theorem land_split (a b c d : Nat) (ha : a < 256) (hc : c < 256) : (a + 256 * b) &&& (c + 256 * d) = (a &&& c) + 256 * (b &&& d) := by
  have hl : a &&& c < 2 ^ 8 := Nat.and_lt_two_pow _ hc
  apply Nat.eq_of_testBit_eq
  intro i
  rw [Nat.testBit_and, Nat.add_comm a, Nat.add_comm c, Nat.add_comm (a &&& c), show (256 : Nat) = 2 ^ 8 from rfl, Nat.testBit_two_pow_mul_add b (show a < 2 ^ 8 from ha), Nat.testBit_two_pow_mul_add d (show c < 2 ^ 8 from hc),
    Nat.testBit_two_pow_mul_add (b &&& d) hl]
  split <;> rw [Nat.testBit_and]
def rep (m : Nat) : Nat → Nat
  | 0 => 0
  | n + 1 => m + 256 * rep m n
def st1 (m x : Nat) : Nat := (x / 2 &&& m) + (x &&& m)
def st2 (m x : Nat) : Nat := (x / 4 &&& m) + (x &&& m)
def st3 (m x : Nat) : Nat := (x / 16 + x) &&& m
def b1 (b : Nat) : Nat := (b / 2 &&& 85) + (b &&& 85)
def b2 (b : Nat) : Nat := (b / 4 &&& 51) + (b &&& 51)
def b3 (b : Nat) : Nat := (b / 16 + b) &&& 15
theorem low1 : ∀ b, b < 256 → ∀ e, e < 2 → (b / 2 + 128 * e) &&& 85 = b / 2 &&& 85 := by decide +kernel
theorem low2 : ∀ b, b < 256 → ∀ e, e < 4 → (b / 4 + 64 * e) &&& 51 = b / 4 &&& 51 := by decide +kernel
theorem low3 : ∀ b, b < 69 → ∀ e, e < 5 → (b / 16 + b + 16 * e) &&& 15 = (b / 16 + b) &&& 15 := by decide +kernel
theorem b2_lt : ∀ b, b < 256 → b2 (b1 b) < 69 ∧ b2 (b1 b) % 16 < 5 := by decide +kernel
theorem b1_lt : ∀ b, b < 256 → b1 b < 256 := by decide +kernel
def pc8 (b : Nat) : Nat := ((List.range 8).filter fun j => b.testBit j).length
theorem b3_pc : ∀ b, b < 256 → b3 (b2 (b1 b)) = pc8 b ∧ pc8 b ≤ 8 := by decide +kernel
theorem rep_succ (m n : Nat) : rep m (n + 1) = m + 256 * rep m n := rfl
theorem st1_step (n b y : Nat) (hb : b < 256) : st1 (rep 85 (n + 1)) (b + 256 * y) = b1 b + 256 * st1 (rep 85 n) y := by
  unfold st1 b1
  rw [rep_succ, show (b + 256 * y) / 2 = (b / 2 + 128 * (y % 2)) + 256 * (y / 2) by omega, land_split _ _ _ _ (by omega) (by decide), low1 b hb _ (by omega), land_split _ _ _ _ hb (by decide)]
  omega
theorem st2_step (n b y : Nat) (hb : b < 256) : st2 (rep 51 (n + 1)) (b + 256 * y) = b2 b + 256 * st2 (rep 51 n) y := by
  unfold st2 b2
  rw [rep_succ, show (b + 256 * y) / 4 = (b / 4 + 64 * (y % 4)) + 256 * (y / 4) by omega, land_split _ _ _ _ (by omega) (by decide), low2 b hb _ (by omega), land_split _ _ _ _ hb (by decide)]
  omega
theorem st3_step (n b y : Nat) (hb : b < 69) (hy : y % 16 < 5) : st3 (rep 15 (n + 1)) (b + 256 * y) = b3 b + 256 * st3 (rep 15 n) y := by
  unfold st3 b3
  rw [rep_succ, show (b + 256 * y) / 16 + (b + 256 * y) = (b / 16 + b + 16 * (y % 16)) + 256 * (y / 16 + y) by omega, land_split _ _ _ _ (by omega) (by decide), low3 b hb _ hy]
/-- The three steps in a row. -/
def pcs (n x : Nat) : Nat := st3 (rep 15 n) (st2 (rep 51 n) (st1 (rep 85 n) x))
theorem low_nibble (n y : Nat) : st2 (rep 51 n) (st1 (rep 85 n) y) % 16 < 5 := by
  cases n with
  | zero => simp [rep, st1, st2]
  | succ n =>
    have hb : y % 256 < 256 := Nat.mod_lt _ (by decide)
    rw [show y = y % 256 + 256 * (y / 256) by omega, st1_step _ _ _ hb, st2_step _ _ _ (b1_lt _ hb)]
    have := (b2_lt _ hb).2
    omega
theorem pcs_step (n b y : Nat) (hb : b < 256) : pcs (n + 1) (b + 256 * y) = pc8 b + 256 * pcs n y := by
  unfold pcs
  rw [st1_step _ _ _ hb, st2_step _ _ _ (b1_lt _ hb), st3_step _ _ _ (b2_lt _ hb).1 (low_nibble n y), (b3_pc _ hb).1]
theorem pcs_zero (x : Nat) : pcs 0 x = 0 := by simp [pcs, rep, st3]
/-- How many of the lowest n bytes' bits are set. -/
def pcn (n x : Nat) : Nat := ((List.range (8 * n)).filter fun j => x.testBit j).length
theorem pcn_step (n b y : Nat) (hb : b < 256) : pcn (n + 1) (b + 256 * y) = pc8 b + pcn n y := by
  unfold pcn pc8
  rw [show 8 * (n + 1) = 8 + 8 * n by omega, range_add, List.filter_append, List.length_append, List.filter_map, List.length_map]
  congr 1
  · congr 1
    apply List.filter_congr
    intro j hj
    rw [List.mem_range] at hj
    rw [Nat.add_comm, show (256 : Nat) = 2 ^ 8 from rfl, Nat.testBit_two_pow_mul_add y (show b < 2 ^ 8 from hb), if_pos hj]
  · congr 1
    apply List.filter_congr
    intro j hj
    simp only [Function.comp]
    rw [Nat.add_comm b, show (256 : Nat) = 2 ^ 8 from rfl, Nat.testBit_two_pow_mul_add y (show b < 2 ^ 8 from hb), if_neg (by omega), Nat.add_sub_cancel_left]
theorem pcn_zero (x : Nat) : pcn 0 x = 0 := rfl
theorem wl_pcn (x : Nat) : (wl x).length = pcn 8 x := rfl
/-- What math/bits.OnesCount64 comes to. -/
def pcAll (x : Nat) : Nat :=
  let a := pcs 8 x
  let b := a + a / 256
  let c := b + b / 65536
  let d := c + c / 4294967296
  d % 128
theorem sum8 (g0 g1 g2 g3 g4 g5 g6 g7 : Nat) (h0 : g0 ≤ 8) (h1 : g1 ≤ 8) (h2 : g2 ≤ 8) (h3 : g3 ≤ 8) (h4 : g4 ≤ 8) (h5 : g5 ≤ 8) (h6 : g6 ≤ 8) (h7 : g7 ≤ 8) (t0 t1 t2 t3 t4 t5 t6 t7 : Nat)
    (e7 : t7 = g7) (e6 : t6 = g6 + 256 * t7) (e5 : t5 = g5 + 256 * t6) (e4 : t4 = g4 + 256 * t5) (e3 : t3 = g3 + 256 * t4) (e2 : t2 = g2 + 256 * t3) (e1 : t1 = g1 + 256 * t2) (e0 : t0 = g0 + 256 * t1)
    (b c : Nat) (hb : b = t0 + t0 / 256) (hc : c = b + b / 65536) :
    (c + c / 4294967296) % 128 = g0 + (g1 + (g2 + (g3 + (g4 + (g5 + (g6 + (g7 + 0))))))) ∧ t0 ≤ 1157442765409226760 := by
  have f1 : t0 / 256 = t1 := by omega
  rw [f1] at hb
  have f2 : b / 65536 = t2 + t3 := by omega
  rw [f2] at hc
  have f3 : c / 4294967296 = t4 + t5 + t6 + t7 := by
    have q3 : t3 = g3 + 256 * (g4 + 256 * (g5 + 256 * g6)) + 4294967296 * t7 := by omega
    have q2 : t2 = g2 + 256 * (g3 + 256 * (g4 + 256 * g5)) + 4294967296 * t6 := by omega
    have q1 : t1 = g1 + 256 * (g2 + 256 * (g3 + 256 * g4)) + 4294967296 * t5 := by omega
    have q0 : t0 = g0 + 256 * (g1 + 256 * (g2 + 256 * g3)) + 4294967296 * t4 := by omega
    clear e0 e1 e2 e3 e4 e5 e6 e7 f1 f2
    omega
  rw [f3]
  constructor
  · have m7 : t7 % 256 = g7 := by omega
    have m6 : t6 % 256 = g6 := by omega
    have m5 : t5 % 256 = g5 := by omega
    have m4 : t4 % 256 = g4 := by omega
    have m3 : t3 % 256 = g3 := by omega
    have m2 : t2 % 256 = g2 := by omega
    have m1 : t1 % 256 = g1 := by omega
    have m0 : t0 % 256 = g0 := by omega
    clear e0 e1 e2 e3 e4 e5 e6 e7 f1 f2 f3
    omega
  · clear hb hc f1 f2 f3
    omega
theorem pcAll_eq {x : Nat} (h : x < 2 ^ 64) : pcAll x = (wl x).length ∧ pcs 8 x ≤ 1157442765409226760 := by
  obtain ⟨x0, x1, x2, x3, x4, x5, x6, x7, hx, l0, l1, l2, l3, l4, l5, l6, l7⟩ : ∃ x0 x1 x2 x3 x4 x5 x6 x7 : Nat, x = x0 + 256 * (x1 + 256 * (x2 + 256 * (x3 + 256 * (x4 + 256 * (x5 + 256 * (x6 + 256 * (x7 + 256 * 0))))))) ∧
      x0 < 256 ∧ x1 < 256 ∧ x2 < 256 ∧ x3 < 256 ∧ x4 < 256 ∧ x5 < 256 ∧ x6 < 256 ∧ x7 < 256 :=
    ⟨x % 256, x / 256 % 256, x / 65536 % 256, x / 16777216 % 256, x / 4294967296 % 256, x / 1099511627776 % 256, x / 281474976710656 % 256, x / 72057594037927936, by omega, by omega, by omega, by omega, by omega, by omega, by omega, by omega, by omega⟩
  have ha : pcs 8 x = pc8 x0 + 256 * (pc8 x1 + 256 * (pc8 x2 + 256 * (pc8 x3 + 256 * (pc8 x4 + 256 * (pc8 x5 + 256 * (pc8 x6 + 256 * pc8 x7)))))) := by
    rw [hx, pcs_step _ _ _ l0, pcs_step _ _ _ l1, pcs_step _ _ _ l2, pcs_step _ _ _ l3, pcs_step _ _ _ l4, pcs_step _ _ _ l5, pcs_step _ _ _ l6, pcs_step _ _ _ l7, pcs_zero, Nat.mul_zero, Nat.add_zero]
  have hp : pcn 8 x = pc8 x0 + (pc8 x1 + (pc8 x2 + (pc8 x3 + (pc8 x4 + (pc8 x5 + (pc8 x6 + (pc8 x7 + 0))))))) := by
    rw [hx, pcn_step _ _ _ l0, pcn_step _ _ _ l1, pcn_step _ _ _ l2, pcn_step _ _ _ l3, pcn_step _ _ _ l4, pcn_step _ _ _ l5, pcn_step _ _ _ l6, pcn_step _ _ _ l7, pcn_zero]
  have key := sum8 _ _ _ _ _ _ _ _ (b3_pc _ l0).2 (b3_pc _ l1).2 (b3_pc _ l2).2 (b3_pc _ l3).2 (b3_pc _ l4).2 (b3_pc _ l5).2 (b3_pc _ l6).2 (b3_pc _ l7).2 _ _ _ _ _ _ _ _ rfl rfl rfl rfl rfl rfl rfl ha _ _ rfl rfl
  refine ⟨?_, key.2⟩
  rw [wl_pcn, hp]
  exact key.1

/-! ### turned round -/
def revStep (k m x : Nat) : Nat := (x / 2 ^ k &&& m) ||| ((x &&& m) * 2 ^ k)
theorem revStep_bit (k m x i : Nat) : (revStep k m x).testBit i = (x.testBit (i + k) && m.testBit i || decide (k ≤ i) && (x.testBit (i - k) && m.testBit (i - k))) := by
  unfold revStep
  rw [Nat.testBit_or, Nat.testBit_and, Nat.testBit_div_two_pow, Nat.testBit_mul_two_pow, Nat.testBit_and]
/-- Where a bit comes from, in one step. -/
def src (k i : Nat) : Nat := if i / k % 2 = 0 then i + k else i - k
theorem rev_of_mask (k m : Nat) (hm : ∀ i, i < 64 → m.testBit i = decide (i / k % 2 = 0)) (h1 : ∀ i, i < 64 → i / k % 2 = 1 → k ≤ i ∧ (i - k) / k % 2 = 0) (h0 : ∀ i, i < 64 → i / k % 2 = 0 → k ≤ i → (i - k) / k % 2 = 1)
    (x i : Nat) (hi : i < 64) : (revStep k m x).testBit i = x.testBit (src k i) := by
  rw [revStep_bit, hm i hi]
  unfold src
  by_cases h : i / k % 2 = 0
  · rw [if_pos h]
    by_cases hk : k ≤ i
    · rw [hm (i - k) (by omega)]
      have := h0 i hi h hk
      simp [h, this]
    · simp [h, hk]
  · have h2 : i / k % 2 = 1 := by omega
    obtain ⟨hk, h3⟩ := h1 i hi h2
    rw [if_neg h, hm (i - k) (by omega)]
    simp [h, hk, h3]
theorem revStep_lt (k m x : Nat) (hk : m * 2 ^ k < 2 ^ 64) (hm : m < 2 ^ 64) : revStep k m x < 2 ^ 64 := by
  unfold revStep
  apply Nat.or_lt_two_pow
  · exact Nat.lt_of_le_of_lt Nat.and_le_right hm
  · exact Nat.lt_of_le_of_lt (Nat.mul_le_mul_right _ Nat.and_le_right) hk
def rev3 (x : Nat) : Nat := revStep 4 1085102592571150095 (revStep 2 3689348814741910323 (revStep 1 6148914691236517205 x))
def revB (x : Nat) : Nat := revStep 16 281470681808895 (revStep 8 71777214294589695 x)
def revAll (x : Nat) : Nat := let y := revB (rev3 x); y / 4294967296 ||| (y * 4294967296 % 18446744073709551616)
theorem rev_step1 (x i : Nat) (hi : i < 64) : (revStep 1 6148914691236517205 x).testBit i = x.testBit (src 1 i) := rev_of_mask 1 _ (by decide +kernel) (by decide +kernel) (by decide +kernel) x i hi
theorem rev_step2 (x i : Nat) (hi : i < 64) : (revStep 2 3689348814741910323 x).testBit i = x.testBit (src 2 i) := rev_of_mask 2 _ (by decide +kernel) (by decide +kernel) (by decide +kernel) x i hi
theorem rev_step4 (x i : Nat) (hi : i < 64) : (revStep 4 1085102592571150095 x).testBit i = x.testBit (src 4 i) := rev_of_mask 4 _ (by decide +kernel) (by decide +kernel) (by decide +kernel) x i hi
theorem rev_step8 (x i : Nat) (hi : i < 64) : (revStep 8 71777214294589695 x).testBit i = x.testBit (src 8 i) := rev_of_mask 8 _ (by decide +kernel) (by decide +kernel) (by decide +kernel) x i hi
theorem rev_step16 (x i : Nat) (hi : i < 64) : (revStep 16 281470681808895 x).testBit i = x.testBit (src 16 i) := rev_of_mask 16 _ (by decide +kernel) (by decide +kernel) (by decide +kernel) x i hi
theorem src_lt : ∀ i, i < 64 → src 1 i < 64 ∧ src 2 i < 64 ∧ src 4 i < 64 ∧ src 8 i < 64 ∧ src 16 i < 64 := by decide +kernel
theorem src_all : ∀ i, i < 64 → src 1 (src 2 (src 4 (src 8 (src 16 (if i < 32 then i + 32 else i - 32))))) = 63 - i := by decide +kernel
theorem revAll_bit (x i : Nat) (hi : i < 64) : (revAll x).testBit i = x.testBit (63 - i) := by
  have hj : (if i < 32 then i + 32 else i - 32) < 64 := by split <;> omega
  have e : (revAll x).testBit i = (revB (rev3 x)).testBit (if i < 32 then i + 32 else i - 32) := by
    have hy : revB (rev3 x) < 2 ^ 64 := revStep_lt _ _ _ (by decide) (by decide)
    unfold revAll
    simp only
    rw [Nat.testBit_or, show (4294967296 : Nat) = 2 ^ 32 from rfl, Nat.testBit_div_two_pow, show (18446744073709551616 : Nat) = 2 ^ 64 from rfl, Nat.testBit_mod_two_pow, Nat.testBit_mul_two_pow]
    by_cases h : i < 32
    · have h2 : ¬ 32 ≤ i := by omega
      have h3 : i < 64 := hi
      simp [h, h2]
    · have h2 : 32 ≤ i := by omega
      rw [if_neg h, Nat.testBit_lt_two_pow (i := i + 32) (Nat.lt_of_lt_of_le hy (Nat.pow_le_pow_right (by decide) (by omega)))]
      simp [hi, h2]
  rw [e, ← src_all i hi]
  generalize (if i < 32 then i + 32 else i - 32) = j at *
  have a16 := (src_lt j hj).2.2.2.2
  have a8 := (src_lt _ a16).2.2.2.1
  have a4 := (src_lt _ a8).2.2.1
  have a2 := (src_lt _ a4).2.1
  unfold revB rev3
  rw [rev_step16 _ _ hj, rev_step8 _ _ a16, rev_step4 _ _ a8, rev_step2 _ _ a4, rev_step1 _ _ a2]
end Go.Proofs.YtmhbblkihjmonaaDoor
