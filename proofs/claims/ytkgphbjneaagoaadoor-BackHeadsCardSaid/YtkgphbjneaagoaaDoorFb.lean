/- Cut by program (cut_tpl.py) out of my templates XWd XOp XB1 XB2 XB3 XB4 XB5 XB6 XB7 XB8 XB9 XBa. -/
import Derived.Test.YtkgphbjneaagoaaDoorNs
import Derived.Test.YtkgphbjneaagoaaDoorBk
import Derived.Test.YtkgphbjneaagoaaDoorRd
import Derived.Lib.TrailingZeros
import Derived.Below
import Derived.WalkKit
import Derived.Laws.BitsAllLaws
import Derived.Deep.Draws
import Derived.StillTailTactics
import Derived.Laws.OwnMore
import Derived.Laws.Rows
import Derived.Test.YtkgphbjneaagoaaDoorProg
import Derived.KernelRfl
import Derived.WalkLawsBesides
import Derived.WalkSpells
import Derived.Deep.QuietTactic
import Derived.BigQuiet
import Derived.Lib.Hide
import Derived.Outline
import Derived.Deep.LoopGhost
import Derived.Deep.RegionHeld3
import Derived.Laws.AppendOwn
import Derived.Maps.AppendAt
import Derived.OwnWalk
import Derived.Deep.AppendLies
import Derived.RegionTactic
import Derived.Deep.RegionLaw
/- Plain facts on words of 64 bits: their lists, the lowest bit, how many, turned round. No program in sight. -/
set_option maxRecDepth 100000
namespace Go.Proofs.YtkgphbjneaagoaaDoor
open Go

theorem risingN_ext : ∀ {l k : List Nat}, l.Pairwise (· < ·) → k.Pairwise (· < ·) → (∀ i, i ∈ l ↔ i ∈ k) → l = k := by
  intro l k hl hk h
  have e : l.map Int.ofNat = k.map Int.ofNat := by
    apply rising_ext
    · rw [List.pairwise_map]; exact hl.imp fun h => Int.ofNat_lt.2 h
    · rw [List.pairwise_map]; exact hk.imp fun h => Int.ofNat_lt.2 h
    · intro i
      simp only [List.mem_map]
      constructor
      · rintro ⟨n, hn, rfl⟩; exact ⟨n, (h n).1 hn, rfl⟩
      · rintro ⟨n, hn, rfl⟩; exact ⟨n, (h n).2 hn, rfl⟩
  exact List.map_inj_right (fun _ _ h => Int.ofNat.inj h) |>.1 e

/-- The places of a word's bits. -/
def wl (w : Nat) : List Nat := (List.range 64).filter fun j => w.testBit j
theorem mem_wl {w j : Nat} : j ∈ wl w ↔ j < 64 ∧ w.testBit j = true := by
  unfold wl; rw [List.mem_filter, List.mem_range]
theorem wl_sorted (w : Nat) : (wl w).Pairwise (· < ·) := List.Pairwise.filter _ List.pairwise_lt_range
theorem wl_zero : wl 0 = [] := List.eq_nil_iff_forall_not_mem.2 fun j h => by rw [mem_wl] at h; simp at h
theorem wl_length (w : Nat) : (wl w).length ≤ 64 := by
  have := List.length_filter_le (fun j => w.testBit j) (List.range 64)
  simpa [wl] using this

/-- The lowest bit: where it is, and what is left without it. -/
theorem low_bit {w : Nat} (h0 : w ≠ 0) (h : w < 2 ^ 64) : ∃ m, w = 2 ^ Lib.ctz 64 w * (2 * m + 1) ∧ Lib.ctz 64 w < 64 := by
  obtain ⟨m, hm, hk⟩ := Lib.ctzFrom_spec 64 w (by omega) h
  have e : Lib.ctz 64 w = Lib.ctzFrom 64 w := by simp [Lib.ctz, h0]
  rw [e]; exact ⟨m, hm, hk⟩
theorem odd_bit (k m j : Nat) : (2 ^ k * (2 * m + 1)).testBit j = (decide (j = k) || decide (k < j) && m.testBit (j - k - 1)) := by
  rw [Nat.mul_comm, Nat.testBit_mul_two_pow]
  by_cases h : k ≤ j
  · obtain ⟨d, rfl⟩ : ∃ d, j = k + d := ⟨j - k, by omega⟩
    rw [Nat.add_sub_cancel_left]
    cases d with
    | zero => simp [Nat.testBit_zero]
    | succ d =>
      rw [Nat.testBit_succ, show (2 * m + 1) / 2 = m by omega]
      simp
  · have h1 : ¬ j = k := by omega
    have h2 : ¬ k < j := by omega
    simp [h, h1, h2]
theorem ctz_bit {w : Nat} (h0 : w ≠ 0) (h : w < 2 ^ 64) : w.testBit (Lib.ctz 64 w) = true ∧ ∀ j, j < Lib.ctz 64 w → w.testBit j = false := by
  obtain ⟨m, hm, hk⟩ := low_bit h0 h
  constructor
  · rw [hm, ← hm, hm, odd_bit, ← hm]; simp
  · intro j hj
    rw [hm, odd_bit]
    have h1 : ¬ j = Lib.ctz 64 w := by omega
    have h2 : ¬ Lib.ctz 64 w < j := by omega
    simp [h1, h2]
theorem clear_low {w : Nat} (h0 : w ≠ 0) (h : w < 2 ^ 64) (j : Nat) : (w &&& (w - 1)).testBit j = (w.testBit j && !decide (j = Lib.ctz 64 w)) := by
  obtain ⟨m, hm, hk⟩ := low_bit h0 h
  generalize Lib.ctz 64 w = k at *
  have hp : 0 < 2 ^ k := Nat.two_pow_pos k
  have e : w - 1 = 2 ^ k * (2 * m) + (2 ^ k - 1) := by rw [hm, Nat.mul_add]; omega
  rw [Nat.testBit_and, e, hm, odd_bit, Nat.testBit_two_pow_mul_add (2 * m) (by omega : 2 ^ k - 1 < 2 ^ k), Nat.testBit_two_pow_sub_one]
  by_cases h1 : j < k
  · have h2 : ¬ j = k := by omega
    have h3 : ¬ k < j := by omega
    simp [h2, h3]
  · obtain ⟨d, rfl⟩ : ∃ d, j = k + d := ⟨j - k, by omega⟩
    rw [if_neg h1, Nat.add_sub_cancel_left]
    cases d with
    | zero => simp [Nat.testBit_zero]
    | succ d =>
      rw [Nat.testBit_succ, show 2 * m / 2 = m by omega]
      simp
theorem wl_cons {w : Nat} (h0 : w ≠ 0) (h : w < 2 ^ 64) : wl w = Lib.ctz 64 w :: wl (w &&& (w - 1)) := by
  obtain ⟨hb, hlow⟩ := ctz_bit h0 h
  obtain ⟨m, hm, hk⟩ := low_bit h0 h
  apply risingN_ext (wl_sorted w)
  · rw [List.pairwise_cons]
    refine ⟨fun j hj => ?_, wl_sorted _⟩
    rw [mem_wl, clear_low h0 h] at hj
    rcases Nat.lt_or_ge (Lib.ctz 64 w) j with h1 | h1
    · exact h1
    · exfalso
      have h2 := hj.2
      by_cases e : j = Lib.ctz 64 w
      · simp [e] at h2
      · rw [hlow j (by omega)] at h2; simp at h2
  · intro j
    rw [List.mem_cons, mem_wl, mem_wl, clear_low h0 h]
    constructor
    · rintro ⟨h1, h2⟩
      by_cases e : j = Lib.ctz 64 w
      · exact .inl e
      · exact .inr ⟨h1, by simp [h2, e]⟩
    · rintro (rfl | ⟨h1, h2⟩)
      · exact ⟨hk, hb⟩
      · simp at h2
        exact ⟨h1, h2.1⟩
theorem clear_lt {w : Nat} (h : w < 2 ^ 64) : w &&& (w - 1) < 2 ^ 64 := Nat.lt_of_le_of_lt Nat.and_le_left h
theorem wl_nil {w : Nat} (h : w < 2 ^ 64) (hn : wl w = []) : w = 0 := by
  apply Nat.eq_of_testBit_eq
  intro j
  by_cases hj : j < 64
  · cases hb : w.testBit j with
    | false => simp
    | true => have : j ∈ wl w := mem_wl.2 ⟨hj, hb⟩; rw [hn] at this; cases this
  · rw [Nat.testBit_lt_two_pow (Nat.lt_of_lt_of_le h (Nat.pow_le_pow_right (by decide) (by omega)))]; simp
/-- After j bits have been struck. -/
def strike : Nat → Nat → Nat
  | 0, w => w
  | j + 1, w => strike j (w &&& (w - 1))
theorem strike_lt : ∀ (j : Nat) {w : Nat}, w < 2 ^ 64 → strike j w < 2 ^ 64
  | 0, _, h => h
  | j + 1, _, h => strike_lt j (clear_lt h)
theorem strike_succ : ∀ (j w : Nat), strike (j + 1) w = strike j w &&& (strike j w - 1)
  | 0, _ => rfl
  | j + 1, w => strike_succ j (w &&& (w - 1))
theorem wl_strike : ∀ (j : Nat) {w : Nat}, w < 2 ^ 64 → wl (strike j w) = (wl w).drop j
  | 0, _, _ => rfl
  | j + 1, w, h => by
    show wl (strike j (w &&& (w - 1))) = _
    by_cases h0 : w = 0
    · subst h0
      rw [wl_strike j (by decide)]
      simp [wl_zero]
    · rw [wl_strike j (clear_lt h), wl_cons h0 h]; rfl

/-! ### a set's list out of its words -/
theorem range_add (a b : Nat) : List.range (a + b) = List.range a ++ (List.range b).map (a + ·) := List.range_add
theorem filter_word (s : NS) (k : Nat) : ((List.range 64).map (64 * k + ·)).filter (fun i => s.getLsbD i) = (wl (wn s k)).map (64 * k + ·) := by
  rw [List.filter_map]
  congr 1
  unfold wl
  apply List.filter_congr
  intro j hj
  rw [List.mem_range] at hj
  rw [wn_bit]
  simp [hj]
/-- The list of the first k words. -/
def lstTo (s : NS) : Nat → List Nat
  | 0 => []
  | k + 1 => lstTo s k ++ (wl (wn s k)).map (64 * k + ·)
theorem lstTo_range (s : NS) (k : Nat) : lstTo s k = (List.range (64 * k)).filter fun i => s.getLsbD i := by
  induction k with
  | zero => rfl
  | succ k ih => rw [lstTo, ih, Nat.mul_add, Nat.mul_one, range_add, List.filter_append, filter_word]
theorem lstTo_four (s : NS) : lstTo s 4 = lstN s := lstTo_range s 4
theorem lstTo_length (s : NS) (k : Nat) : (lstTo s k).length ≤ 64 * k := by
  rw [lstTo_range]
  have := List.length_filter_le (fun i => s.getLsbD i) (List.range (64 * k))
  simpa using this
theorem lstTo_prefix (s : NS) (k : Nat) (h : k ≤ 4) : lstTo s k <+: lstN s := by
  rw [← lstTo_four]
  rcases (show k = 0 ∨ k = 1 ∨ k = 2 ∨ k = 3 ∨ k = 4 by omega) with rfl | rfl | rfl | rfl | rfl
  · exact List.nil_prefix
  · exact ((List.prefix_append _ _).trans (List.prefix_append _ _)).trans (List.prefix_append _ _)
  · exact (List.prefix_append _ _).trans (List.prefix_append _ _)
  · exact List.prefix_append _ _
  · exact List.prefix_refl _
def cntTo (s : NS) (k : Nat) : Nat := (lstTo s k).length
theorem cntTo_four (s : NS) : cntTo s 4 = cnt s := by unfold cntTo cnt; rw [lstTo_four]
theorem cntTo_succ (s : NS) (k : Nat) : cntTo s (k + 1) = cntTo s k + (wl (wn s k)).length := by simp [cntTo, lstTo]
theorem cntTo_le (s : NS) (k : Nat) : cntTo s k ≤ 64 * k := lstTo_length s k

/-! ### how many bits: the parallel sum -/
theorem land_split (a b c d : Nat) (ha : a < 256) (hc : c < 256) : (a + 256 * b) &&& (c + 256 * d) = (a &&& c) + 256 * (b &&& d) := by
  have hl : a &&& c < 2 ^ 8 := Nat.and_lt_two_pow _ hc
  apply Nat.eq_of_testBit_eq
  intro i
  rw [Nat.testBit_and, Nat.add_comm a, Nat.add_comm c, Nat.add_comm (a &&& c), show (256 : Nat) = 2 ^ 8 from rfl, Nat.testBit_two_pow_mul_add b (show a < 2 ^ 8 from ha), Nat.testBit_two_pow_mul_add d (show c < 2 ^ 8 from hc),
    Nat.testBit_two_pow_mul_add (b &&& d) hl]
  split <;> rw [Nat.testBit_and]
def rep (m : Nat) : Nat → Nat
  | 0 => 0
  | n + 1 => m + 256 * rep m n
def st1 (m x : Nat) : Nat := (x / 2 &&& m) + (x &&& m)
def st2 (m x : Nat) : Nat := (x / 4 &&& m) + (x &&& m)
def st3 (m x : Nat) : Nat := (x / 16 + x) &&& m
def b1 (b : Nat) : Nat := (b / 2 &&& 85) + (b &&& 85)
def b2 (b : Nat) : Nat := (b / 4 &&& 51) + (b &&& 51)
def b3 (b : Nat) : Nat := (b / 16 + b) &&& 15
theorem low1 : ∀ b, b < 256 → ∀ e, e < 2 → (b / 2 + 128 * e) &&& 85 = b / 2 &&& 85 := by decide +kernel
theorem low2 : ∀ b, b < 256 → ∀ e, e < 4 → (b / 4 + 64 * e) &&& 51 = b / 4 &&& 51 := by decide +kernel
theorem low3 : ∀ b, b < 69 → ∀ e, e < 5 → (b / 16 + b + 16 * e) &&& 15 = (b / 16 + b) &&& 15 := by decide +kernel
theorem b2_lt : ∀ b, b < 256 → b2 (b1 b) < 69 ∧ b2 (b1 b) % 16 < 5 := by decide +kernel
theorem b1_lt : ∀ b, b < 256 → b1 b < 256 := by decide +kernel
def pc8 (b : Nat) : Nat := ((List.range 8).filter fun j => b.testBit j).length
theorem b3_pc : ∀ b, b < 256 → b3 (b2 (b1 b)) = pc8 b ∧ pc8 b ≤ 8 := by decide +kernel
theorem rep_succ (m n : Nat) : rep m (n + 1) = m + 256 * rep m n := rfl
theorem st1_step (n b y : Nat) (hb : b < 256) : st1 (rep 85 (n + 1)) (b + 256 * y) = b1 b + 256 * st1 (rep 85 n) y := by
  unfold st1 b1
  rw [rep_succ, show (b + 256 * y) / 2 = (b / 2 + 128 * (y % 2)) + 256 * (y / 2) by omega, land_split _ _ _ _ (by omega) (by decide), low1 b hb _ (by omega), land_split _ _ _ _ hb (by decide)]
  omega
theorem st2_step (n b y : Nat) (hb : b < 256) : st2 (rep 51 (n + 1)) (b + 256 * y) = b2 b + 256 * st2 (rep 51 n) y := by
  unfold st2 b2
  rw [rep_succ, show (b + 256 * y) / 4 = (b / 4 + 64 * (y % 4)) + 256 * (y / 4) by omega, land_split _ _ _ _ (by omega) (by decide), low2 b hb _ (by omega), land_split _ _ _ _ hb (by decide)]
  omega
theorem st3_step (n b y : Nat) (hb : b < 69) (hy : y % 16 < 5) : st3 (rep 15 (n + 1)) (b + 256 * y) = b3 b + 256 * st3 (rep 15 n) y := by
  unfold st3 b3
  rw [rep_succ, show (b + 256 * y) / 16 + (b + 256 * y) = (b / 16 + b + 16 * (y % 16)) + 256 * (y / 16 + y) by omega, land_split _ _ _ _ (by omega) (by decide), low3 b hb _ hy]
/-- The three steps in a row. -/
def pcs (n x : Nat) : Nat := st3 (rep 15 n) (st2 (rep 51 n) (st1 (rep 85 n) x))
theorem low_nibble (n y : Nat) : st2 (rep 51 n) (st1 (rep 85 n) y) % 16 < 5 := by
  cases n with
  | zero => simp [rep, st1, st2]
  | succ n =>
    have hb : y % 256 < 256 := Nat.mod_lt _ (by decide)
    rw [show y = y % 256 + 256 * (y / 256) by omega, st1_step _ _ _ hb, st2_step _ _ _ (b1_lt _ hb)]
    have := (b2_lt _ hb).2
    omega
theorem pcs_step (n b y : Nat) (hb : b < 256) : pcs (n + 1) (b + 256 * y) = pc8 b + 256 * pcs n y := by
  unfold pcs
  rw [st1_step _ _ _ hb, st2_step _ _ _ (b1_lt _ hb), st3_step _ _ _ (b2_lt _ hb).1 (low_nibble n y), (b3_pc _ hb).1]
theorem pcs_zero (x : Nat) : pcs 0 x = 0 := by simp [pcs, rep, st3]
/-- How many of the lowest n bytes' bits are set. -/
def pcn (n x : Nat) : Nat := ((List.range (8 * n)).filter fun j => x.testBit j).length
theorem pcn_step (n b y : Nat) (hb : b < 256) : pcn (n + 1) (b + 256 * y) = pc8 b + pcn n y := by
  unfold pcn pc8
  rw [show 8 * (n + 1) = 8 + 8 * n by omega, range_add, List.filter_append, List.length_append, List.filter_map, List.length_map]
  congr 1
  · congr 1
    apply List.filter_congr
    intro j hj
    rw [List.mem_range] at hj
    rw [Nat.add_comm, show (256 : Nat) = 2 ^ 8 from rfl, Nat.testBit_two_pow_mul_add y (show b < 2 ^ 8 from hb), if_pos hj]
  · congr 1
    apply List.filter_congr
    intro j hj
    simp only [Function.comp]
    rw [Nat.add_comm b, show (256 : Nat) = 2 ^ 8 from rfl, Nat.testBit_two_pow_mul_add y (show b < 2 ^ 8 from hb), if_neg (by omega), Nat.add_sub_cancel_left]
theorem pcn_zero (x : Nat) : pcn 0 x = 0 := rfl
theorem wl_pcn (x : Nat) : (wl x).length = pcn 8 x := rfl
/-- What math/bits.OnesCount64 comes to. -/
def pcAll (x : Nat) : Nat :=
  let a := pcs 8 x
  let b := a + a / 256
  let c := b + b / 65536
  let d := c + c / 4294967296
  d % 128
theorem sum8 (g0 g1 g2 g3 g4 g5 g6 g7 : Nat) (h0 : g0 ≤ 8) (h1 : g1 ≤ 8) (h2 : g2 ≤ 8) (h3 : g3 ≤ 8) (h4 : g4 ≤ 8) (h5 : g5 ≤ 8) (h6 : g6 ≤ 8) (h7 : g7 ≤ 8) (t0 t1 t2 t3 t4 t5 t6 t7 : Nat)
    (e7 : t7 = g7) (e6 : t6 = g6 + 256 * t7) (e5 : t5 = g5 + 256 * t6) (e4 : t4 = g4 + 256 * t5) (e3 : t3 = g3 + 256 * t4) (e2 : t2 = g2 + 256 * t3) (e1 : t1 = g1 + 256 * t2) (e0 : t0 = g0 + 256 * t1)
    (b c : Nat) (hb : b = t0 + t0 / 256) (hc : c = b + b / 65536) :
    (c + c / 4294967296) % 128 = g0 + (g1 + (g2 + (g3 + (g4 + (g5 + (g6 + (g7 + 0))))))) ∧ t0 ≤ 1157442765409226760 := by
  have f1 : t0 / 256 = t1 := by omega
  rw [f1] at hb
  have f2 : b / 65536 = t2 + t3 := by omega
  rw [f2] at hc
  have f3 : c / 4294967296 = t4 + t5 + t6 + t7 := by
    have q3 : t3 = g3 + 256 * (g4 + 256 * (g5 + 256 * g6)) + 4294967296 * t7 := by omega
    have q2 : t2 = g2 + 256 * (g3 + 256 * (g4 + 256 * g5)) + 4294967296 * t6 := by omega
    have q1 : t1 = g1 + 256 * (g2 + 256 * (g3 + 256 * g4)) + 4294967296 * t5 := by omega
    have q0 : t0 = g0 + 256 * (g1 + 256 * (g2 + 256 * g3)) + 4294967296 * t4 := by omega
    clear e0 e1 e2 e3 e4 e5 e6 e7 f1 f2
    omega
  rw [f3]
  constructor
  · have m7 : t7 % 256 = g7 := by omega
    have m6 : t6 % 256 = g6 := by omega
    have m5 : t5 % 256 = g5 := by omega
    have m4 : t4 % 256 = g4 := by omega
    have m3 : t3 % 256 = g3 := by omega
    have m2 : t2 % 256 = g2 := by omega
    have m1 : t1 % 256 = g1 := by omega
    have m0 : t0 % 256 = g0 := by omega
    clear e0 e1 e2 e3 e4 e5 e6 e7 f1 f2 f3
    omega
  · clear hb hc f1 f2 f3
    omega
theorem pcAll_eq {x : Nat} (h : x < 2 ^ 64) : pcAll x = (wl x).length ∧ pcs 8 x ≤ 1157442765409226760 := by
  obtain ⟨x0, x1, x2, x3, x4, x5, x6, x7, hx, l0, l1, l2, l3, l4, l5, l6, l7⟩ : ∃ x0 x1 x2 x3 x4 x5 x6 x7 : Nat, x = x0 + 256 * (x1 + 256 * (x2 + 256 * (x3 + 256 * (x4 + 256 * (x5 + 256 * (x6 + 256 * (x7 + 256 * 0))))))) ∧
      x0 < 256 ∧ x1 < 256 ∧ x2 < 256 ∧ x3 < 256 ∧ x4 < 256 ∧ x5 < 256 ∧ x6 < 256 ∧ x7 < 256 :=
    ⟨x % 256, x / 256 % 256, x / 65536 % 256, x / 16777216 % 256, x / 4294967296 % 256, x / 1099511627776 % 256, x / 281474976710656 % 256, x / 72057594037927936, by omega, by omega, by omega, by omega, by omega, by omega, by omega, by omega, by omega⟩
  have ha : pcs 8 x = pc8 x0 + 256 * (pc8 x1 + 256 * (pc8 x2 + 256 * (pc8 x3 + 256 * (pc8 x4 + 256 * (pc8 x5 + 256 * (pc8 x6 + 256 * pc8 x7)))))) := by
    rw [hx, pcs_step _ _ _ l0, pcs_step _ _ _ l1, pcs_step _ _ _ l2, pcs_step _ _ _ l3, pcs_step _ _ _ l4, pcs_step _ _ _ l5, pcs_step _ _ _ l6, pcs_step _ _ _ l7, pcs_zero, Nat.mul_zero, Nat.add_zero]
  have hp : pcn 8 x = pc8 x0 + (pc8 x1 + (pc8 x2 + (pc8 x3 + (pc8 x4 + (pc8 x5 + (pc8 x6 + (pc8 x7 + 0))))))) := by
    rw [hx, pcn_step _ _ _ l0, pcn_step _ _ _ l1, pcn_step _ _ _ l2, pcn_step _ _ _ l3, pcn_step _ _ _ l4, pcn_step _ _ _ l5, pcn_step _ _ _ l6, pcn_step _ _ _ l7, pcn_zero]
  have key := sum8 _ _ _ _ _ _ _ _ (b3_pc _ l0).2 (b3_pc _ l1).2 (b3_pc _ l2).2 (b3_pc _ l3).2 (b3_pc _ l4).2 (b3_pc _ l5).2 (b3_pc _ l6).2 (b3_pc _ l7).2 _ _ _ _ _ _ _ _ rfl rfl rfl rfl rfl rfl rfl ha _ _ rfl rfl
  refine ⟨?_, key.2⟩
  rw [wl_pcn, hp]
  exact key.1

/-! ### turned round -/
def revStep (k m x : Nat) : Nat := (x / 2 ^ k &&& m) ||| ((x &&& m) * 2 ^ k)
theorem revStep_bit (k m x i : Nat) : (revStep k m x).testBit i = (x.testBit (i + k) && m.testBit i || decide (k ≤ i) && (x.testBit (i - k) && m.testBit (i - k))) := by
  unfold revStep
  rw [Nat.testBit_or, Nat.testBit_and, Nat.testBit_div_two_pow, Nat.testBit_mul_two_pow, Nat.testBit_and]
/-- Where a bit comes from, in one step. -/
def src (k i : Nat) : Nat := if i / k % 2 = 0 then i + k else i - k
theorem rev_of_mask (k m : Nat) (hm : ∀ i, i < 64 → m.testBit i = decide (i / k % 2 = 0)) (h1 : ∀ i, i < 64 → i / k % 2 = 1 → k ≤ i ∧ (i - k) / k % 2 = 0) (h0 : ∀ i, i < 64 → i / k % 2 = 0 → k ≤ i → (i - k) / k % 2 = 1)
    (x i : Nat) (hi : i < 64) : (revStep k m x).testBit i = x.testBit (src k i) := by
  rw [revStep_bit, hm i hi]
  unfold src
  by_cases h : i / k % 2 = 0
  · rw [if_pos h]
    by_cases hk : k ≤ i
    · rw [hm (i - k) (by omega)]
      have := h0 i hi h hk
      simp [h, this]
    · simp [h, hk]
  · have h2 : i / k % 2 = 1 := by omega
    obtain ⟨hk, h3⟩ := h1 i hi h2
    rw [if_neg h, hm (i - k) (by omega)]
    simp [h, hk, h3]
theorem revStep_lt (k m x : Nat) (hk : m * 2 ^ k < 2 ^ 64) (hm : m < 2 ^ 64) : revStep k m x < 2 ^ 64 := by
  unfold revStep
  apply Nat.or_lt_two_pow
  · exact Nat.lt_of_le_of_lt Nat.and_le_right hm
  · exact Nat.lt_of_le_of_lt (Nat.mul_le_mul_right _ Nat.and_le_right) hk
def rev3 (x : Nat) : Nat := revStep 4 1085102592571150095 (revStep 2 3689348814741910323 (revStep 1 6148914691236517205 x))
def revB (x : Nat) : Nat := revStep 16 281470681808895 (revStep 8 71777214294589695 x)
def revAll (x : Nat) : Nat := let y := revB (rev3 x); y / 4294967296 ||| (y * 4294967296 % 18446744073709551616)
theorem rev_step1 (x i : Nat) (hi : i < 64) : (revStep 1 6148914691236517205 x).testBit i = x.testBit (src 1 i) := rev_of_mask 1 _ (by decide +kernel) (by decide +kernel) (by decide +kernel) x i hi
theorem rev_step2 (x i : Nat) (hi : i < 64) : (revStep 2 3689348814741910323 x).testBit i = x.testBit (src 2 i) := rev_of_mask 2 _ (by decide +kernel) (by decide +kernel) (by decide +kernel) x i hi
theorem rev_step4 (x i : Nat) (hi : i < 64) : (revStep 4 1085102592571150095 x).testBit i = x.testBit (src 4 i) := rev_of_mask 4 _ (by decide +kernel) (by decide +kernel) (by decide +kernel) x i hi
theorem rev_step8 (x i : Nat) (hi : i < 64) : (revStep 8 71777214294589695 x).testBit i = x.testBit (src 8 i) := rev_of_mask 8 _ (by decide +kernel) (by decide +kernel) (by decide +kernel) x i hi
theorem rev_step16 (x i : Nat) (hi : i < 64) : (revStep 16 281470681808895 x).testBit i = x.testBit (src 16 i) := rev_of_mask 16 _ (by decide +kernel) (by decide +kernel) (by decide +kernel) x i hi
theorem src_lt : ∀ i, i < 64 → src 1 i < 64 ∧ src 2 i < 64 ∧ src 4 i < 64 ∧ src 8 i < 64 ∧ src 16 i < 64 := by decide +kernel
theorem src_all : ∀ i, i < 64 → src 1 (src 2 (src 4 (src 8 (src 16 (if i < 32 then i + 32 else i - 32))))) = 63 - i := by decide +kernel
theorem revAll_bit (x i : Nat) (hi : i < 64) : (revAll x).testBit i = x.testBit (63 - i) := by
  have hj : (if i < 32 then i + 32 else i - 32) < 64 := by split <;> omega
  have e : (revAll x).testBit i = (revB (rev3 x)).testBit (if i < 32 then i + 32 else i - 32) := by
    have hy : revB (rev3 x) < 2 ^ 64 := revStep_lt _ _ _ (by decide) (by decide)
    unfold revAll
    simp only
    rw [Nat.testBit_or, show (4294967296 : Nat) = 2 ^ 32 from rfl, Nat.testBit_div_two_pow, show (18446744073709551616 : Nat) = 2 ^ 64 from rfl, Nat.testBit_mod_two_pow, Nat.testBit_mul_two_pow]
    by_cases h : i < 32
    · have h2 : ¬ 32 ≤ i := by omega
      have h3 : i < 64 := hi
      simp [h, h2]
    · have h2 : 32 ≤ i := by omega
      rw [if_neg h, Nat.testBit_lt_two_pow (i := i + 32) (Nat.lt_of_lt_of_le hy (Nat.pow_le_pow_right (by decide) (by omega)))]
      simp [hi, h2]
  rw [e, ← src_all i hi]
  generalize (if i < 32 then i + 32 else i - 32) = j at *
  have a16 := (src_lt j hj).2.2.2.2
  have a8 := (src_lt _ a16).2.2.2.1
  have a4 := (src_lt _ a8).2.2.1
  have a2 := (src_lt _ a4).2.1
  unfold revB rev3
  rw [rev_step16 _ _ hj, rev_step8 _ _ a16, rev_step4 _ _ a8, rev_step2 _ _ a4, rev_step1 _ _ a2]
end Go.Proofs.YtkgphbjneaagoaaDoor

/- The words of a set as the model's values; small laws on the model's operations. -/
set_option linter.unusedVariables false
namespace Go.Proofs.YtkgphbjneaagoaaDoor
open Go.RowKit

/-- A set as a value. -/
abbrev nsV (s : NS) : Value := .agg #[.int .u64 (wn s 0 : Nat), .int .u64 (wn s 1 : Nat), .int .u64 (wn s 2 : Nat), .int .u64 (wn s 3 : Nat)]
theorem ns_get (s : NS) (k : Nat) (h : k < 4) : [Value.int .u64 (wn s 0 : Nat), .int .u64 (wn s 1 : Nat), .int .u64 (wn s 2 : Nat), .int .u64 (wn s 3 : Nat)][k]? = some (.int .u64 (wn s k : Nat)) := by
  rcases (show k = 0 ∨ k = 1 ∨ k = 2 ∨ k = 3 by omega) with rfl | rfl | rfl | rfl <;> rfl
theorem ret_ns {s : NS} {a b c d : Int} (ha : a = (wn s 0 : Nat)) (hb : b = (wn s 1 : Nat)) (hc : c = (wn s 2 : Nat)) (hd : d = (wn s 3 : Nat)) :
    Ending.returned (.agg #[.int .u64 a, .int .u64 b, .int .u64 c, .int .u64 d]) = .returned (nsV s) := by rw [ha, hb, hc, hd]
/-- Any four words are a set's. -/
theorem ns_of_words (a b c d : Int) (ha : 0 ≤ a ∧ a ≤ 18446744073709551615) (hb : 0 ≤ b ∧ b ≤ 18446744073709551615) (hc : 0 ≤ c ∧ c ≤ 18446744073709551615) (hd : 0 ≤ d ∧ d ≤ 18446744073709551615) :
    ∃ s : NS, a = (wn s 0 : Nat) ∧ b = (wn s 1 : Nat) ∧ c = (wn s 2 : Nat) ∧ d = (wn s 3 : Nat) := by
  obtain ⟨a, rfl⟩ := Int.eq_ofNat_of_zero_le ha.1
  obtain ⟨b, rfl⟩ := Int.eq_ofNat_of_zero_le hb.1
  obtain ⟨c, rfl⟩ := Int.eq_ofNat_of_zero_le hc.1
  obtain ⟨d, rfl⟩ := Int.eq_ofNat_of_zero_le hd.1
  have ha' : a < 2 ^ 64 := by omega
  have hb' : b < 2 ^ 64 := by omega
  have hc' : c < 2 ^ 64 := by omega
  have hd' : d < 2 ^ 64 := by omega
  have key : ∀ k x : Nat, k < 4 → x < 2 ^ 64 → (x = if k = 0 then a else if k = 1 then b else if k = 2 then c else d) →
      x = wn (setOf fun i => (if i / 64 = 0 then a else if i / 64 = 1 then b else if i / 64 = 2 then c else d).testBit (i % 64)) k := by
    intro k x hk hx e
    apply wn_eq hx
    intro j hj
    rw [setOf_bit, show (64 * k + j) / 64 = k by omega, show (64 * k + j) % 64 = j by omega, ← e]
    have : 64 * k + j < 256 := by omega
    simp [this]
  exact ⟨_, by rw [← key 0 a (by decide) ha' rfl], by rw [← key 1 b (by decide) hb' rfl], by rw [← key 2 c (by decide) hc' rfl], by rw [← key 3 d (by decide) hd' rfl]⟩

/-! ### words of sets that are made of others -/
theorem wn_and (s t : NS) (k : Nat) (hk : k < 4) : wn s k &&& wn t k = wn (s &&& t) k :=
  wn_eq (Nat.and_lt_two_pow _ (wn_lt t k)) fun j hj => by rw [Nat.testBit_and, wn_bit, wn_bit, BitVec.getLsbD_and]; simp [hj]
theorem wn_or (s t : NS) (k : Nat) (hk : k < 4) : wn s k ||| wn t k = wn (s ||| t) k :=
  wn_eq (Nat.or_lt_two_pow (wn_lt s k) (wn_lt t k)) fun j hj => by rw [Nat.testBit_or, wn_bit, wn_bit, BitVec.getLsbD_or]; simp [hj]
theorem max_sub_bit (x j : Nat) (hx : x < 2 ^ 64) (hj : j < 64) : (18446744073709551615 - x).testBit j = !x.testBit j := by
  have := Nat.testBit_two_pow_sub_succ hx j
  rw [show 2 ^ 64 - (x + 1) = 18446744073709551615 - x by omega] at this
  simpa [hj] using this
theorem wn_not (s t : NS) (k : Nat) (hk : k < 4) : wn s k &&& (18446744073709551615 - wn t k) = wn (notS s t) k :=
  wn_eq (Nat.lt_of_le_of_lt Nat.and_le_left (wn_lt s k)) fun j hj => by
    rw [Nat.testBit_and, max_sub_bit _ _ (wn_lt t k) hj, wn_bit, wn_bit, notS_bit _ _ _ (by omega)]; simp [hj]

/-! ### the model's operations on words -/
theorem and_u64 (x y : Nat) (hx : x ≤ 18446744073709551615) (hy : y ≤ 18446744073709551615) : bits .and .u64 (x : Int) (y : Int) = ((x &&& y : Nat) : Int) := u64_and_nat x y (by omega) (by omega)
theorem or_u64 (x y : Nat) (hx : x ≤ 18446744073709551615) (hy : y ≤ 18446744073709551615) : bits .or .u64 (x : Int) (y : Int) = ((x ||| y : Nat) : Int) := u64_or_nat x y (by omega) (by omega)
theorem andNot_u64 (x y : Nat) (hx : x ≤ 18446744073709551615) (hy : y ≤ 18446744073709551615) : bits .andNot .u64 (x : Int) (y : Int) = ((x &&& (18446744073709551615 - y) : Nat) : Int) := u64_andNot_nat x y (by omega) (by omega)
theorem ret_u64 {a b : Int} (h : a = b) : Ending.returned (.int .u64 a) = .returned (.int .u64 b) := by rw [h]
theorem ret_i64 {a b : Int} (h : a = b) : Ending.returned (.int .i64 a) = .returned (.int .i64 b) := by rw [h]
theorem ret_bool {a b : Bool} (h : a = b) : Ending.returned (.bool a) = .returned (.bool b) := by rw [h]

end Go.Proofs.YtkgphbjneaagoaaDoor

/- The walks of the sets' And, Or, Not. -/
set_option linter.unusedVariables false
namespace Go.Proofs.YtkgphbjneaagoaaDoor
open Go.RowKit

theorem andW (x y : Nat) (hx : x ≤ 18446744073709551615) (hy : y ≤ 18446744073709551615) (w : World) :
    Calls Tryd.prog 37 #[.int .u64 (x : Int), .int .u64 (y : Int)] w fun e w' => e = .returned (.int .u64 ((x &&& y : Nat) : Int)) ∧ w = w' := by
  go_enter Tryd.func37, Tryd.ntmps37
  go_wp2
  go_ret
  exact ⟨ret_u64 (and_u64 x y hx hy), rfl⟩
theorem notW (x y : Nat) (hx : x ≤ 18446744073709551615) (hy : y ≤ 18446744073709551615) (w : World) :
    Calls Tryd.prog 36 #[.int .u64 (x : Int), .int .u64 (y : Int)] w fun e w' => e = .returned (.int .u64 ((x &&& (18446744073709551615 - y) : Nat) : Int)) ∧ w = w' := by
  go_enter Tryd.func36, Tryd.ntmps36
  go_wp2
  go_ret
  exact ⟨ret_u64 (andNot_u64 x y hx hy), rfl⟩

/-- The array in the loop: the first k words done. -/
def mixA (g : Nat → Nat → Nat) (s t : NS) (k : Nat) : Array Value :=
  #[.int .u64 ((if 0 < k then g (wn s 0) (wn t 0) else wn s 0 : Nat) : Int), .int .u64 ((if 1 < k then g (wn s 1) (wn t 1) else wn s 1 : Nat) : Int),
    .int .u64 ((if 2 < k then g (wn s 2) (wn t 2) else wn s 2 : Nat) : Int), .int .u64 ((if 3 < k then g (wn s 3) (wn t 3) else wn s 3 : Nat) : Int)]
theorem mixA_get (g : Nat → Nat → Nat) (s t : NS) (k : Nat) (h : k < 4) : (mixA g s t k)[k]? = some (.int .u64 (wn s k : Nat)) := by
  rcases (show k = 0 ∨ k = 1 ∨ k = 2 ∨ k = 3 by omega) with rfl | rfl | rfl | rfl <;> rfl
theorem mixA_set (g : Nat → Nat → Nat) (s t : NS) (k : Nat) (h : k < 4) : (mixA g s t k).setIfInBounds k (.int .u64 (g (wn s k) (wn t k) : Nat)) = mixA g s t (k + 1) := by
  rcases (show k = 0 ∨ k = 1 ∨ k = 2 ∨ k = 3 by omega) with rfl | rfl | rfl | rfl <;> rfl

theorem mixA_zero (g : Nat → Nat → Nat) (s t : NS) (k : Nat) (h : k < 4) : (mixA g s t 0)[k]? = some (.int .u64 (wn s k : Nat)) := by
  rcases (show k = 0 ∨ k = 1 ∨ k = 2 ∨ k = 3 by omega) with rfl | rfl | rfl | rfl <;> rfl

set_option maxHeartbeats 1000000 in
theorem each_any (f : Nat) (g : Nat → Nat → Nat) (s t : NS) (hc : ∀ (args : Array Value) (w : World), (callFunc f args).run Tryd.prog w = .ok (.enter f args) w)
    (hf : ∀ (k : Nat) (w : World), k < 4 → Calls Tryd.prog f #[.int .u64 (wn s k : Nat), .int .u64 (wn t k : Nat)] w fun e w' => e = .returned (.int .u64 ((g (wn s k) (wn t k) : Nat) : Int)) ∧ w = w') (w : World) :
    Calls Tryd.prog 35 #[nsV s, nsV t, .func (.func f) #[] #[]] w fun e w' => e = .returned (.agg (mixA g s t 4)) ∧ Below w.heap.size w w' := by
  have HF := Lib.hid hf
  clear hf
  go_enter Tryd.func35, Tryd.ntmps35
  go_wp2_with fail
  go_loopw [8] (fun i wr => ∃ k : Nat, k ≤ 4 ∧ i = .int .i64 k ∧ Blk wr w.heap.size 24 (mixA g s t k) ∧ Blk wr (w.heap.size + 1) 24 (mixA g t t 0) ∧ Blk wr (w.heap.size + 2) 24 #[.int .u64 0, .int .u64 0, .int .u64 0, .int .u64 0] ∧ Below w.heap.size w wr) (fun i _ => 4 - (intOf i).toNat)
  case atStart =>
    exact ⟨0, by omega, rfl, ((Blk.new w _ _).alloc _).alloc _, (Blk.new' (by simp)).alloc _, Blk.new' (by simp), (((Below.refl _ _).alloc (by simp) _).alloc (by simp) _).alloc (by simp; omega) _⟩
  case round =>
    obtain ⟨k, hk, rfl, hB0, hB1, hB2, hbl⟩ := hrel
    have H0 := Lib.hid hB0; have H1 := Lib.hid hB1; have H2 := Lib.hid hB2; have HL := Lib.hid hbl
    obtain ⟨r1, r2, r3⟩ := hB0.rules
    obtain ⟨q1, q2, q3⟩ := hB1.rules
    clear hB0 hB1 hbl
    by_cases hlt : k < 4
    · have c1 := mixA_get g s t k hlt
      have c2 := mixA_zero g t t k hlt
      clear hB2
      go_wp2_with fail
      refine region_tail 10 (by kernel_rfl) (by kernel_rfl) ?_
      simp only [List.take_succ_cons, List.take_zero, List.drop_succ_cons, List.drop_zero]
      repeat still_step
      still_call (still_of (HF.out k _ hlt))
      repeat still_step
      refine wpStill_nil ?_
      go_wp2
      go_roundw
      case rel =>
        refine ⟨k + 1, by omega, by go_num, ?_, H1.out.drew.far (by simp) _, H2.out.drew.far (by simp) _, HL.out.drew.setCell (by simp) _⟩
        rw [← mixA_set g s t k hlt]
        exact H0.out.drew.set_ k _
      case measure => simp [intOf]; omega
    · obtain rfl : k = 4 := by omega
      obtain ⟨z1, z2, z3⟩ := hB2.rules
      clear hB2
      have e4 : mixA g s t 4 = #[.int .u64 ((g (wn s 0) (wn t 0) : Nat) : Int), .int .u64 ((g (wn s 1) (wn t 1) : Nat) : Int), .int .u64 ((g (wn s 2) (wn t 2) : Nat) : Int), .int .u64 ((g (wn s 3) (wn t 3) : Nat) : Int)] := rfl
      go_wp2
      exact post_cell rfl rfl (H2.out.four _ _ _ _) Tryd.underlying24 rfl (by kernel_rfl) rfl ⟨rfl, below_four HL.out (by omega) _ _ _ _⟩

theorem mixA_ns {g : Nat → Nat → Nat} {s t u : NS} (h : ∀ k, k < 4 → g (wn s k) (wn t k) = wn u k) : mixA g s t 4 = #[.int .u64 (wn u 0 : Nat), .int .u64 (wn u 1 : Nat), .int .u64 (wn u 2 : Nat), .int .u64 (wn u 3 : Nat)] := by
  rw [← h 0 (by decide), ← h 1 (by decide), ← h 2 (by decide), ← h 3 (by decide)]; rfl
/-- A function that hands a closure on to 'each'. -/
theorem eachAnd (s t : NS) (w : World) : Calls Tryd.prog 35 #[nsV s, nsV t, .func (.func 37) #[] #[]] w fun e w' => e = .returned (nsV (s &&& t)) ∧ Below w.heap.size w w' :=
  (each_any 37 (fun x y => x &&& y) s t (fun _ _ => by kernel_rfl) (fun k w _ => andW _ _ (wn_le s k) (wn_le t k) w) w).mono fun e w' ⟨h1, h2⟩ => ⟨by rw [h1, mixA_ns (fun k hk => wn_and s t k hk)], h2⟩
theorem eachNot (s t : NS) (w : World) : Calls Tryd.prog 35 #[nsV s, nsV t, .func (.func 36) #[] #[]] w fun e w' => e = .returned (nsV (notS s t)) ∧ Below w.heap.size w w' :=
  (each_any 36 (fun x y => x &&& (18446744073709551615 - y)) s t (fun _ _ => by kernel_rfl) (fun k w _ => notW _ _ (wn_le s k) (wn_le t k) w) w).mono fun e w' ⟨h1, h2⟩ => ⟨by rw [h1, mixA_ns (fun k hk => wn_not s t k hk)], h2⟩

theorem and_c (s t : NS) (w : World) : Calls Tryd.prog 19 #[nsV s, nsV t] w fun e w' => e = .returned (nsV (s &&& t)) ∧ Below w.heap.size w w' := by
  go_enter Tryd.func19, Tryd.ntmps19
  go_wp2_with fail
  refine (eachAnd s t _).mono ?_
  rintro e w1 ⟨rfl, hb⟩
  have h3 : Blk w1 (w.heap.size + 2) 24 #[.int .u64 0, .int .u64 0, .int .u64 0, .int .u64 0] := Blk.after (Blk.new' (by simp)) hb
  obtain ⟨r1, r2, r3⟩ := h3.rules
  have H3 := Lib.hid h3; have HL := Lib.hid hb
  clear h3 hb
  go_wp2
  exact post_cell rfl rfl (H3.out.four _ _ _ _) Tryd.underlying24 rfl (by kernel_rfl) rfl ⟨rfl, below_four (below_then ((((Below.refl _ _).alloc (by simp) _).alloc (by simp) _).alloc (by simp; omega) _) (by simp; omega) HL.out) (by omega) _ _ _ _⟩
theorem not_c (s t : NS) (w : World) : Calls Tryd.prog 18 #[nsV s, nsV t] w fun e w' => e = .returned (nsV (notS s t)) ∧ Below w.heap.size w w' := by
  go_enter Tryd.func18, Tryd.ntmps18
  go_wp2_with fail
  refine (eachNot s t _).mono ?_
  rintro e w1 ⟨rfl, hb⟩
  have h3 : Blk w1 (w.heap.size + 2) 24 #[.int .u64 0, .int .u64 0, .int .u64 0, .int .u64 0] := Blk.after (Blk.new' (by simp)) hb
  obtain ⟨r1, r2, r3⟩ := h3.rules
  have H3 := Lib.hid h3; have HL := Lib.hid hb
  clear h3 hb
  go_wp2
  exact post_cell rfl rfl (H3.out.four _ _ _ _) Tryd.underlying24 rfl (by kernel_rfl) rfl ⟨rfl, below_four (below_then ((((Below.refl _ _).alloc (by simp) _).alloc (by simp) _).alloc (by simp; omega) _) (by simp; omega) HL.out) (by omega) _ _ _ _⟩

/-! ### '==' on two sets -/
@[go_sem] theorem eq_arr (a0 a1 a2 a3 b0 b1 b2 b3 : Int) (w : World) :
    (Op.equalIn 10000 24 (.agg #[.int .u64 a0, .int .u64 a1, .int .u64 a2, .int .u64 a3]) (.agg #[.int .u64 b0, .int .u64 b1, .int .u64 b2, .int .u64 b3])).run Tryd.prog w = .ok (a0 == b0 && (a1 == b1 && (a2 == b2 && a3 == b3))) w := by
  have e : ∀ a b : Int, (Op.equalIn 9999 22 (.int .u64 a) (.int .u64 b)).run Tryd.prog w = .ok (a == b) w := fun a b => run_equalIn_int w 9998 22 .u64 .u64 a b Tryd.underlying22
  have hs : (sizeOf 22).run Tryd.prog w = .ok 1 w := by kernel_rfl
  have p : ∀ (x0 x1 x2 x3 : Int), (part 22 #[.int .u64 x0, .int .u64 x1, .int .u64 x2, .int .u64 x3] (0 * 1)).run Tryd.prog w = .ok (.int .u64 x0) w ∧ (part 22 #[.int .u64 x0, .int .u64 x1, .int .u64 x2, .int .u64 x3] (1 * 1)).run Tryd.prog w = .ok (.int .u64 x1) w ∧
      (part 22 #[.int .u64 x0, .int .u64 x1, .int .u64 x2, .int .u64 x3] (2 * 1)).run Tryd.prog w = .ok (.int .u64 x2) w ∧ (part 22 #[.int .u64 x0, .int .u64 x1, .int .u64 x2, .int .u64 x3] (3 * 1)).run Tryd.prog w = .ok (.int .u64 x3) w := fun x0 x1 x2 x3 =>
    ⟨by kernel_rfl, by kernel_rfl, by kernel_rfl, by kernel_rfl⟩
  show (Op.equalIn (9999 + 1) 24 _ _).run Tryd.prog w = _
  unfold Op.equalIn
  simp only [Sem.run_bind, run_underlying Tryd.underlying24, Result.andThen_ok, hs]
  rw [Std.Legacy.Range.forIn_eq_forIn_range']
  simp only [Std.Legacy.Range.size]
  cases h0 : (a0 == b0) <;> cases h1 : (a1 == b1) <;> cases h2 : (a2 == b2) <;> cases h3 : (a3 == b3) <;> simp [List.range', p, e, h0, h1, h2, h3]
theorem eq_words (a b : NS) : (((wn a 0 : Nat) : Int) == (wn b 0 : Nat) && (((wn a 1 : Nat) : Int) == (wn b 1 : Nat) && (((wn a 2 : Nat) : Int) == (wn b 2 : Nat) && ((wn a 3 : Nat) : Int) == (wn b 3 : Nat)))) = decide (a = b) := by
  rw [Bool.eq_iff_iff, decide_eq_true_eq]
  simp only [Bool.and_eq_true, beq_iff_eq]
  constructor
  · rintro ⟨h0, h1, h2, h3⟩
    exact ns_ext_w fun k hk => by
      rcases (show k = 0 ∨ k = 1 ∨ k = 2 ∨ k = 3 by omega) with rfl | rfl | rfl | rfl <;> omega
  · rintro rfl; simp
theorem eq_empty (a : NS) : (((wn a 0 : Nat) : Int) == 0 && (((wn a 1 : Nat) : Int) == 0 && (((wn a 2 : Nat) : Int) == 0 && ((wn a 3 : Nat) : Int) == 0))) = decide (a = emptyS) := by
  have h := eq_words a emptyS
  have e : ∀ k, wn emptyS k = 0 := fun k => by unfold wn emptyS; simp
  simp only [e] at h
  exact h
end Go.Proofs.YtkgphbjneaagoaaDoor

/- The walks of math/bits' functions on words, and of what asks for one number. -/
set_option linter.unusedVariables false
namespace Go.Proofs.YtkgphbjneaagoaaDoor
open Go.RowKit

theorem wrap_u64_nat {a : Nat} (h : a ≤ 18446744073709551615) : IntKind.u64.wrap (a : Int) = (a : Int) := by rw [IntKind.wrap_u64]; omega
theorem and127 (y : Nat) (h : y ≤ 9223372036854775807) : bits .and .i64 (wrap64 (y : Int)) 127 = ((y % 128 : Nat) : Int) := by
  rw [show wrap64 (y : Int) = (y : Int) by unfold wrap64; omega]
  show IntKind.i64.wrap ((BitVec.ofInt 64 (y : Int) &&& BitVec.ofInt 64 127).toNat : Int) = _
  rw [BitVec.toNat_and, BitVec.ofInt_natCast, BitVec.toNat_ofNat, Nat.mod_eq_of_lt (show y < 2 ^ 64 by omega), show (BitVec.ofInt 64 127).toNat = 127 from rfl, nat_mask7, IntKind.wrap_i64]
  omega
theorem pc_core (x y1 y2 y3 y4 y5 y6 r : Nat) (e1 : IntKind.u64.wrap (bits .and .u64 ((x : Int) / 2) 6148914691236517205 + bits .and .u64 (x : Int) 6148914691236517205) = (y1 : Int))
    (e2 : IntKind.u64.wrap (bits .and .u64 ((y1 : Int) / 4) 3689348814741910323 + bits .and .u64 (y1 : Int) 3689348814741910323) = (y2 : Int))
    (e3 : bits .and .u64 (IntKind.u64.wrap ((y2 : Int) / 16 + (y2 : Int))) 1085102592571150095 = (y3 : Int)) (e4 : IntKind.u64.wrap ((y3 : Int) + (y3 : Int) / 256) = (y4 : Int)) (e5 : IntKind.u64.wrap ((y4 : Int) + (y4 : Int) / 65536) = (y5 : Int))
    (e6 : IntKind.u64.wrap ((y5 : Int) + (y5 : Int) / 4294967296) = (y6 : Int)) (e7 : bits .and .i64 (wrap64 (y6 : Int)) 127 = (r : Int)) (w : World) :
    Calls Tryd.prog 34 #[.int .u64 (x : Int)] w fun e w' => e = .returned (.int .i64 r) ∧ w = w' := by
  go_enter Tryd.func34, Tryd.ntmps34
  go_wp2
  go_ret
  exact ⟨rfl, rfl⟩
theorem st_le (m x k : Nat) : st1 m x ≤ 2 * m ∧ st2 m x ≤ 2 * m := by
  unfold st1 st2
  have a := @Nat.and_le_right (x / 2) m
  have b := @Nat.and_le_right x m
  have c := @Nat.and_le_right (x / 4) m
  omega
theorem div_cast (x k : Nat) : ((x : Int) / (k : Int)) = ((x / k : Nat) : Int) := by simp
theorem d2 (x : Nat) : (x : Int) / 2 = ((x / 2 : Nat) : Int) := by omega
theorem d4 (x : Nat) : (x : Int) / 4 = ((x / 4 : Nat) : Int) := by omega
theorem d16 (x : Nat) : (x : Int) / 16 = ((x / 16 : Nat) : Int) := by omega
theorem d256 (x : Nat) : (x : Int) / 256 = ((x / 256 : Nat) : Int) := by omega
theorem d65536 (x : Nat) : (x : Int) / 65536 = ((x / 65536 : Nat) : Int) := by omega
theorem d32 (x : Nat) : (x : Int) / 4294967296 = ((x / 4294967296 : Nat) : Int) := by omega
theorem pc_c (x : Nat) (hx : x ≤ 18446744073709551615) (w : World) :
    Calls Tryd.prog 34 #[.int .u64 (x : Int)] w fun e w' => e = .returned (.int .i64 ((wl x).length : Nat)) ∧ w = w' := by
  obtain ⟨hp, hle⟩ := pcAll_eq (show x < 2 ^ 64 by omega)
  have m1 : rep 85 8 = 6148914691236517205 := by decide +kernel
  have m2 : rep 51 8 = 3689348814741910323 := by decide +kernel
  have m3 : rep 15 8 = 1085102592571150095 := by decide +kernel
  have l1 := (st_le (rep 85 8) x 0).1
  have l2 := (st_le (rep 51 8) (st1 (rep 85 8) x) 0).2
  rw [m1] at l1 l2
  rw [m2] at l2
  refine pc_core x (st1 (rep 85 8) x) (st2 (rep 51 8) (st1 (rep 85 8) x)) (pcs 8 x) (pcs 8 x + pcs 8 x / 256) (pcs 8 x + pcs 8 x / 256 + (pcs 8 x + pcs 8 x / 256) / 65536)
    (pcs 8 x + pcs 8 x / 256 + (pcs 8 x + pcs 8 x / 256) / 65536 + (pcs 8 x + pcs 8 x / 256 + (pcs 8 x + pcs 8 x / 256) / 65536) / 4294967296) _ ?_ ?_ ?_ ?_ ?_ ?_ ?_ w
  · rw [d2 x, show (6148914691236517205 : Int) = ((6148914691236517205 : Nat) : Int) from rfl, and_u64 _ _ (by omega) (by omega), and_u64 _ _ hx (by omega), ← Int.natCast_add, m1]
    exact wrap_u64_nat (by have := (st_le 6148914691236517205 x 0).1; unfold st1 at this; omega)
  · rw [m1, m2]
    generalize st1 6148914691236517205 x = y at *
    rw [d4 y, show (3689348814741910323 : Int) = ((3689348814741910323 : Nat) : Int) from rfl, and_u64 _ _ (by omega) (by omega), and_u64 _ _ (by omega) (by omega), ← Int.natCast_add]
    exact wrap_u64_nat (by have := (st_le 3689348814741910323 y 0).2; unfold st2 at this; omega)
  · unfold pcs
    rw [m1, m2, m3]
    generalize st2 3689348814741910323 (st1 6148914691236517205 x) = y at *
    rw [d16 y, ← Int.natCast_add, wrap_u64_nat (by omega), show (1085102592571150095 : Int) = ((1085102592571150095 : Nat) : Int) from rfl, and_u64 _ _ (by omega) (by omega)]
    rfl
  · rw [d256 _, ← Int.natCast_add]; exact wrap_u64_nat (by omega)
  · rw [d65536 _, ← Int.natCast_add]; exact wrap_u64_nat (by omega)
  · rw [d32 _, ← Int.natCast_add]; exact wrap_u64_nat (by omega)
  · rw [← hp]; exact and127 _ (by omega)

/-! ### the lowest bit -/
/-- The library's table, in its variable. -/
def TabW (w : World) : Prop := ∀ j, j < 64 → w.cell? ⟨0, j, none⟩ = some (.int .u8 (Lib.deBruijn64tab.getD j 0 : Nat))
theorem TabW.lt {w : World} (h : TabW w) : 0 < w.heap.size := block_lt_of_cell (h 0 (by decide))
theorem TabW.below {w w' : World} {B : Nat} (h : TabW w) (hb : Below B w w') (hB : 0 < B) : TabW w' := fun j hj => (hb.cell (p := ⟨_, j, none⟩) hB).trans (h j hj)
theorem TabW.after {w w' : World} (h : TabW w) (hb : Below w.heap.size w w') : TabW w' := h.below hb h.lt
theorem TabW.alloc {w : World} (h : TabW w) (o : Obj) : TabW (w.alloc o) := h.after ((Below.refl _ _).alloc (Nat.le_refl _) o)
theorem TabW.drew {w : World} (h : TabW w) : TabW w.drew := h
theorem tz_core (x k idx : Nat) (w : World) (hx0 : ((x : Int) == 0) = false)
    (key : IntKind.u64.wrap (bits BinOp.and IntKind.u64 (x : Int) (IntKind.u64.wrap (-(x : Int))) * 285870213051353865) / 288230376151711744 = (idx : Int))
    (hi : idx < 64) (hk : k < 64) (hcell : w.cell? ⟨0, idx, none⟩ = some (.int .u8 k)) :
    Calls Tryd.prog 73 #[.int .u64 x] w fun e w' => e = .returned (.int .i64 k) ∧ w = w' := by
  go_enter Tryd.func73, Tryd.ntmps73
  go_wp2_with (simp only [key])
  go_ret
  exact ⟨rfl, rfl⟩
theorem tz_key (x a : Nat) (hx : x ≤ 18446744073709551615) (hx0 : x ≠ 0) (hlow : x &&& (18446744073709551616 - x) = a) :
    IntKind.u64.wrap (bits BinOp.and IntKind.u64 (x : Int) (IntKind.u64.wrap (-(x : Int))) * 285870213051353865) / 288230376151711744 = ((a * 285870213051353865 % 18446744073709551616 / 288230376151711744 : Nat) : Int) := by
  have e1 : IntKind.u64.wrap (-(x : Int)) = ((18446744073709551616 - x : Nat) : Int) := by rw [IntKind.wrap_u64]; omega
  rw [e1, and_u64 x _ hx (by omega), hlow, IntKind.wrap_u64]
  omega
theorem tz_c (x : Nat) (hx : x ≤ 18446744073709551615) (hx0 : x ≠ 0) (w : World) (hT : TabW w) :
    Calls Tryd.prog 73 #[.int .u64 x] w fun e w' => e = .returned (.int .i64 (Lib.ctz 64 x : Nat)) ∧ w = w' := by
  obtain ⟨hlow, hk⟩ := Lib.lowest_bit 64 x hx0 (by omega)
  obtain ⟨hi, htab⟩ := Lib.deBruijn64_at _ hk
  have hcell := hT _ hi
  rw [htab] at hcell
  exact tz_core x _ _ w (by simp; omega) (tz_key x _ hx hx0 hlow) hi hk hcell

theorem step_eq (k m : Nat) (x : Nat) (hx : x ≤ 18446744073709551615) (hm : m * 2 ^ k ≤ 18446744073709551615) (hm2 : m ≤ 18446744073709551615) :
    bits .or .u64 (bits .and .u64 ((x : Int) / ((2 ^ k : Nat) : Int)) (m : Nat)) (IntKind.u64.wrap (bits .and .u64 (x : Int) (m : Nat) * ((2 ^ k : Nat) : Int))) = ((revStep k m x : Nat) : Int) := by
  have h1 : x / 2 ^ k ≤ x := Nat.div_le_self _ _
  have h2 : (x &&& m) * 2 ^ k ≤ m * 2 ^ k := Nat.mul_le_mul_right _ Nat.and_le_right
  have h3 : x / 2 ^ k &&& m ≤ m := Nat.and_le_right
  rw [div_cast, and_u64 _ _ (by omega) hm2, and_u64 _ _ hx hm2, ← Int.natCast_mul, wrap_u64_nat (by omega), or_u64 _ _ (by omega) (by omega)]
  rfl
theorem rs_le (k m x : Nat) (hm : m * 2 ^ k < 2 ^ 64) (hm2 : m < 2 ^ 64) : revStep k m x ≤ 18446744073709551615 := by have := revStep_lt k m x hm hm2; omega
end Go.Proofs.YtkgphbjneaagoaaDoor

/- The walks of the sets' functions: Has, below, Span, Count. -/
set_option linter.unusedVariables false
namespace Go.Proofs.YtkgphbjneaagoaaDoor
open Go.RowKit

theorem and63 (i : Int) (h0 : 0 ≤ i) (h1 : i ≤ 9223372036854775807) : bits .and .i64 i 63 = i % 64 := by
  obtain ⟨n, rfl⟩ := Int.eq_ofNat_of_zero_le h0
  show IntKind.i64.wrap ((BitVec.ofInt 64 (n : Int) &&& BitVec.ofInt 64 63).toNat : Int) = _
  rw [BitVec.toNat_and, BitVec.ofInt_natCast, BitVec.toNat_ofNat, Nat.mod_eq_of_lt (show n < 2 ^ 64 by omega), show (BitVec.ofInt 64 63).toNat = 63 from rfl, nat_mask6, IntKind.wrap_i64]
  omega
theorem pow_cast (x m : Nat) : (x : Int) / 2 ^ m = ((x / 2 ^ m : Nat) : Int) := by simp
theorem and_one (y : Nat) (h : y ≤ 18446744073709551615) : bits .and .u64 (y : Int) 1 = ((y % 2 : Nat) : Int) := by
  rw [show (1 : Int) = ((1 : Nat) : Int) from rfl, and_u64 y 1 h (by decide), nat_mask1]
theorem has_bit (s : NS) (i : Int) (h0 : 0 ≤ i) (h1 : i ≤ 255) : (bits .and .u64 ((wn s (i / 64).toNat : Int) / 2 ^ (i % 64).toNat) 1 == 1) = hasS s i := by
  obtain ⟨n, rfl⟩ := Int.eq_ofNat_of_zero_le h0
  have e1 : ((n : Int) / 64).toNat = n / 64 := by omega
  have e2 : ((n : Int) % 64).toNat = n % 64 := by omega
  rw [e1, e2, pow_cast, and_one _ (by have := wn_le s (n / 64); have := Nat.div_le_self (wn s (n / 64)) (2 ^ (n % 64)); omega), hasS_nat, bit_wn, Nat.testBit_eq_decide_div_mod_eq]
  rw [Bool.eq_iff_iff, beq_iff_eq, decide_eq_true_eq]
  omega

/-! ### an array that is filled word by word -/
def fillA (f : Nat → Nat) (k : Nat) : Array Value :=
  #[.int .u64 ((if 0 < k then f 0 else 0 : Nat) : Int), .int .u64 ((if 1 < k then f 1 else 0 : Nat) : Int), .int .u64 ((if 2 < k then f 2 else 0 : Nat) : Int), .int .u64 ((if 3 < k then f 3 else 0 : Nat) : Int)]
theorem fillA_get (f : Nat → Nat) (k : Nat) (h : k < 4) : (fillA f k)[k]? = some (.int .u64 0) := by
  rcases (show k = 0 ∨ k = 1 ∨ k = 2 ∨ k = 3 by omega) with rfl | rfl | rfl | rfl <;> rfl
theorem fillA_set (f : Nat → Nat) (k : Nat) (h : k < 4) : (fillA f k).setIfInBounds k (.int .u64 (f k : Nat)) = fillA f (k + 1) := by
  rcases (show k = 0 ∨ k = 1 ∨ k = 2 ∨ k = 3 by omega) with rfl | rfl | rfl | rfl <;> rfl
theorem fill_step {w : World} {g t k : Nat} {f : Nat → Nat} {X : Int} (h : Blk w g t (fillA f k)) (hk : k < 4) (hX : X = (f k : Nat)) : Blk (w.setCell ⟨g, k, none⟩ (.int .u64 X)) g t (fillA f (k + 1)) := by
  rw [hX, ← fillA_set f k hk]; exact h.set_ k _
theorem fillA_four (s : NS) : fillA (wn s) 4 = #[.int .u64 (wn s 0 : Nat), .int .u64 (wn s 1 : Nat), .int .u64 (wn s 2 : Nat), .int .u64 (wn s 3 : Nat)] := rfl

theorem below_word0 (n : Int) (k : Nat) (hk : k < 4) (h : n ≤ 64 * k) : wn (belowS n) k = 0 :=
  (wn_eq (by decide) fun j hj => by
    rw [belowS_bit]
    have : ¬ (((64 * k + j : Nat) : Int) < n) := by omega
    simp; omega).symm
theorem below_word1 (n : Int) (k : Nat) (hk : k < 4) (h : 64 * (k + 1) ≤ n) : wn (belowS n) k = 18446744073709551615 :=
  (wn_eq (by decide) fun j hj => by
    rw [belowS_bit, show (18446744073709551615 : Nat) = 2 ^ 64 - 1 from rfl, Nat.testBit_two_pow_sub_one]
    have : (((64 * k + j : Nat) : Int) < n) := by omega
    have h2 : 64 * k + j < 256 := by omega
    simp [hj, h2]; omega).symm
theorem below_word2 (n : Int) (k : Nat) (hk : k < 4) (h0 : 64 * k < n) (h1 : n < 64 * (k + 1)) : wn (belowS n) k = 2 ^ (n - 64 * k).toNat - 1 := by
  have hm : (n - 64 * k).toNat < 64 := by omega
  have hp : 2 ^ (n - 64 * k).toNat < 2 ^ 64 := Nat.pow_lt_pow_right (by decide) hm
  refine (wn_eq (by omega) fun j hj => ?_).symm
  rw [belowS_bit, Nat.testBit_two_pow_sub_one]
  have h2 : 64 * k + j < 256 := by omega
  rw [decide_eq_true h2, Bool.true_and]
  exact decide_eq_decide.2 (by omega)

theorem if_neg_or_zero {n : Int} {k : Nat} (h : n ≤ 64 * (k : Int)) : (if n - 64 * (k : Int) < 0 then 0 else n - 64 * (k : Int)) = 0 := by split <;> omega
theorem below_pow (m : Int) (h0 : 0 ≤ m) (h1 : m ≤ 64) : IntKind.u64.wrap (IntKind.u64.wrap (2 ^ m.toNat) - 1) = ((2 ^ m.toNat - 1 : Nat) : Int) := by
  have hp : 2 ^ m.toNat ≤ 2 ^ 64 := Nat.pow_le_pow_right (by decide) (by omega)
  have h2 : 0 < 2 ^ m.toNat := Nat.two_pow_pos _
  have e : (2 : Int) ^ m.toNat = ((2 ^ m.toNat : Nat) : Int) := by simp
  rw [e, IntKind.wrap_u64, IntKind.wrap_u64]
  generalize 2 ^ m.toNat = p at *
  omega

set_option maxHeartbeats 1000000 in
theorem below_c (n : Int) (w : World) (h0 : 0 ≤ n) (h1 : n ≤ 256) :
    Calls Tryd.prog 71 #[.int .i64 n] w fun e w' => e = .returned (nsV (belowS n)) ∧ Below w.heap.size w w' := by
  go_enter Tryd.func71, Tryd.ntmps71
  go_wp2_with fail
  go_loopw [5] (fun i wr => ∃ k : Nat, k ≤ 4 ∧ i = .int .i64 k ∧ Blk wr w.heap.size 24 #[.int .u64 0, .int .u64 0, .int .u64 0, .int .u64 0] ∧ Blk wr (w.heap.size + 1) 24 (fillA (wn (belowS n)) k) ∧ Below w.heap.size w wr) (fun i _ => 4 - (intOf i).toNat)
  case atStart =>
    exact ⟨0, by omega, rfl, (Blk.new' (by simp)).alloc _, Blk.new' (by simp), ((Below.refl _ _).alloc (by simp) _).alloc (by simp) _⟩
  case round =>
    obtain ⟨k, hk, rfl, hB0, hB1, hbl⟩ := hrel
    have H0 := Lib.hid hB0; have H1 := Lib.hid hB1; have HL := Lib.hid hbl
    obtain ⟨r1, r2, r3⟩ := hB0.rules
    obtain ⟨q1, q2, q3⟩ := hB1.rules
    clear hB0 hB1 hbl
    by_cases hlt : k < 4
    · have c1 := fillA_get (wn (belowS n)) k hlt
      clear r1 r2 r3
      by_cases ha : n ≤ 64 * (k : Int)
      · go_wp2
        all_goals go_roundw
        all_goals first
          | (refine ⟨k + 1, by omega, by go_num, H0.out.far (by simp) _, fill_step H1.out hlt ?_, HL.out.setCell (by simp) _⟩)
          | (simp [intOf]; omega)
        rw [if_neg_or_zero ha, below_word0 n k hlt ha]; rfl
      · by_cases hb : n < 64 * ((k : Int) + 1)
        · go_wp2
          all_goals go_roundw
          all_goals first
            | (refine ⟨k + 1, by omega, by go_num, H0.out.far (by simp) _, fill_step H1.out hlt ?_, HL.out.setCell (by simp) _⟩)
            | (simp [intOf]; omega)
          rw [if_neg (by omega), below_pow _ (by omega) (by omega), below_word2 n k hlt (by omega) (by omega)]
        · go_wp2
          all_goals go_roundw
          all_goals first
            | (refine ⟨k + 1, by omega, by go_num, H0.out.far (by simp) _, fill_step H1.out hlt ?_, HL.out.setCell (by simp) _⟩)
            | (simp [intOf]; omega)
          rw [if_neg (show ¬ n - 64 * (k : Int) < 0 by omega), below_word1 n k hlt (by omega)]
          rw [show (if 64 < n - 64 * (k : Int) then 64 else n - 64 * (k : Int)) = 64 by split <;> omega, below_pow _ (by omega) (by omega)]
          rfl
    · obtain rfl : k = 4 := by omega
      have e4 := fillA_four (belowS n)
      go_wp2
      exact post_cell rfl rfl (H0.out.four _ _ _ _) Tryd.underlying24 rfl (by kernel_rfl) rfl ⟨rfl, below_four HL.out (by omega) _ _ _ _⟩

theorem span_eq (a b : Int) (h0 : 0 ≤ a) (h1 : b ≤ 255) : notS (belowS (b + 1)) (belowS a) = spanS a b := ns_ext fun i hi => by
  rw [notS_bit _ _ _ hi, belowS_bit, belowS_bit, spanS_bit]
  by_cases h2 : (i : Int) < b + 1
  · by_cases h3 : (i : Int) < a
    · have : ¬ a ≤ (i : Int) := by omega
      simp [hi, h3, this]
    · have h4 : a ≤ (i : Int) := by omega
      have h5 : (i : Int) ≤ b := by omega
      simp [hi, h2, h3, h4, h5]
  · have : ¬ (i : Int) ≤ b := by omega
    simp [h2, this]
theorem span_cut (a b : Int) : spanS (if a < 0 then 0 else a) (if 255 < b then 255 else b) = spanS a b := setOf_congr fun i hi => by
  congr 1
  · exact decide_eq_decide.2 (by split <;> omega)
  · exact decide_eq_decide.2 (by split <;> omega)
theorem span_none (a b : Int) (h : (if 255 < b then 255 else b) < (if a < 0 then 0 else a)) : spanS a b = emptyS := ns_ext fun i hi => by
  rw [spanS_bit, empty_bit]
  simp
  intro _ _
  split at h <;> split at h <;> omega
theorem wn_empty (k : Nat) : wn emptyS k = 0 := by unfold wn emptyS; simp

theorem empty_val : nsV emptyS = .agg #[.int .u64 0, .int .u64 0, .int .u64 0, .int .u64 0] := by simp [nsV, wn_empty]
theorem count_c (s : NS) (w : World) :
    Calls Tryd.prog 17 #[nsV s] w fun e w' => e = .returned (.int .i64 (cnt s : Nat)) ∧ Below w.heap.size w w' := by
  have ix : ∀ (k : Nat) (w : World), k < 4 → (Instr.index 24 (nsV s) (.int .i64 (k : Int))).run Tryd.prog w = .ok (.int .u64 (wn s k : Nat)) w := by
    intro k w hk
    rcases (show k = 0 ∨ k = 1 ∨ k = 2 ∨ k = 3 by omega) with rfl | rfl | rfl | rfl <;> kernel_rfl
  have IX := Lib.hid ix
  clear ix
  go_enter Tryd.func17, Tryd.ntmps17
  go_wp2_with fail
  go_loop [3, 7] (fun n i => ∃ k : Nat, k ≤ 4 ∧ i = .int .i64 k ∧ n = .int .i64 (cntTo s k : Nat)) (fun _ i => 4 - (intOf i).toNat)
  case atStart => exact ⟨0, by omega, rfl, rfl⟩
  case round =>
    obtain ⟨k, hk, rfl, rfl⟩ := hrel
    have hc := cntTo_le s k
    have hw := wl_length (wn s k)
    by_cases hlt : k < 4
    · have i1 := fun w => IX.out k w hlt
      go_wp2_with (refine (pc_c (wn s k) (wn_le s k) _).mono ?_; rintro e w' ⟨rfl, rfl⟩)
      go_round
      case rel => exact ⟨k + 1, by omega, by go_num, by rw [cntTo_succ]; go_num⟩
      case measure => simp [intOf]; omega
    · obtain rfl : k = 4 := by omega
      go_wp2
      go_ret
      exact ⟨ret_i64 (by rw [cntTo_four]), (Below.refl _ _).alloc (Nat.le_refl _) _⟩
end Go.Proofs.YtkgphbjneaagoaaDoor

/- The walks of the sets' functions: turned, up, Move. -/
set_option linter.unusedVariables false
namespace Go.Proofs.YtkgphbjneaagoaaDoor
open Go.RowKit

theorem ns_index (s : NS) (k : Nat) (hk : k < 4) (w : World) : (Instr.index 24 (nsV s) (.int .i64 (k : Int))).run Tryd.prog w = .ok (.int .u64 (wn s k : Nat)) w := by
  rcases (show k = 0 ∨ k = 1 ∨ k = 2 ∨ k = 3 by omega) with rfl | rfl | rfl | rfl <;> kernel_rfl

/-! ### an array that is filled from its end -/
def fillR (f : Nat → Nat) (k : Nat) : Array Value :=
  #[.int .u64 ((if 3 < k then f 0 else 0 : Nat) : Int), .int .u64 ((if 2 < k then f 1 else 0 : Nat) : Int), .int .u64 ((if 1 < k then f 2 else 0 : Nat) : Int), .int .u64 ((if 0 < k then f 3 else 0 : Nat) : Int)]
theorem fillR_get (f : Nat → Nat) (k : Nat) (h : k < 4) : (fillR f k)[3 - k]? = some (.int .u64 0) := by
  rcases (show k = 0 ∨ k = 1 ∨ k = 2 ∨ k = 3 by omega) with rfl | rfl | rfl | rfl <;> rfl
theorem fillR_set (f : Nat → Nat) (k : Nat) (h : k < 4) : (fillR f k).setIfInBounds (3 - k) (.int .u64 (f (3 - k) : Nat)) = fillR f (k + 1) := by
  rcases (show k = 0 ∨ k = 1 ∨ k = 2 ∨ k = 3 by omega) with rfl | rfl | rfl | rfl <;> rfl
theorem fillR_step {w : World} {g t k j : Nat} {f : Nat → Nat} {X : Int} (h : Blk w g t (fillR f k)) (hk : k < 4) (hj : j = 3 - k) (hX : X = (f (3 - k) : Nat)) : Blk (w.setCell ⟨g, j, none⟩ (.int .u64 X)) g t (fillR f (k + 1)) := by
  rw [hX, hj, ← fillR_set f k hk]; exact h.set_ _ _
theorem fillR_four (s : NS) : fillR (wn s) 4 = #[.int .u64 (wn s 0 : Nat), .int .u64 (wn s 1 : Nat), .int .u64 (wn s 2 : Nat), .int .u64 (wn s 3 : Nat)] := rfl
def turnS (s : NS) : NS := setOf fun i => s.getLsbD (255 - i)
theorem turn_word (s : NS) (k : Nat) (hk : k < 4) : revAll (wn s k) = wn (turnS s) (3 - k) := by
  have hlt : revAll (wn s k) < 2 ^ 64 := by
    have hy : revB (rev3 (wn s k)) < 2 ^ 64 := revStep_lt _ _ _ (by decide) (by decide)
    unfold revAll
    exact Nat.or_lt_two_pow (by omega) (Nat.mod_lt _ (by decide))
  refine wn_eq hlt fun j hj => ?_
  rw [revAll_bit _ _ hj, wn_bit]
  unfold turnS
  rw [setOf_bit]
  have h2 : 64 * (3 - k) + j < 256 := by omega
  have h3 : 63 - j < 64 := by omega
  rw [decide_eq_true h2, decide_eq_true h3, Bool.true_and, Bool.true_and]
  congr 1
  omega

/-! ### up -/
def upW (s : NS) (q r i : Nat) : Nat := if q < i then (wn s (i - q) * 2 ^ r % 18446744073709551616) ||| (wn s (i - q - 1) / 2 ^ (64 - r)) else if q = i then wn s 0 * 2 ^ r % 18446744073709551616 else 0
theorem upW_le (s : NS) (q r i : Nat) : upW s q r i < 2 ^ 64 := by
  unfold upW
  split
  · refine Nat.or_lt_two_pow (Nat.mod_lt _ (by decide)) (Nat.lt_of_le_of_lt (Nat.div_le_self _ _) (wn_lt s _))
  · split
    · exact Nat.mod_lt _ (by decide)
    · decide
theorem up_word (s : NS) (b : Nat) (hb : b ≤ 255) (i : Nat) (hi : i < 4) : upW s (b / 64) (b % 64) i = wn (moveS s b) i := by
  refine wn_eq (upW_le s _ _ i) fun j hj => ?_
  have hlt : 64 * i + j < 256 := by omega
  have hr : b % 64 < 64 := Nat.mod_lt _ (by decide)
  have hq := Nat.div_add_mod b 64
  rw [moveS_bit, decide_eq_true hlt, Bool.true_and]
  have hpow : ∀ x, (x * 2 ^ (b % 64) % 18446744073709551616).testBit j = (decide (b % 64 ≤ j) && x.testBit (j - b % 64)) := fun x => by
    rw [show (18446744073709551616 : Nat) = 2 ^ 64 from rfl, Nat.testBit_mod_two_pow, Nat.testBit_mul_two_pow]
    simp [hj]
  by_cases h1 : b ≤ 64 * i + j
  · have e : ((64 * i + j : Nat) : Int) - (b : Int) = ((64 * i + j - b : Nat) : Int) := by omega
    rw [e, hasS_nat]
    unfold upW
    by_cases h2 : b / 64 < i
    · rw [if_pos h2, Nat.testBit_or, hpow, wn_bit, Nat.testBit_div_two_pow, wn_bit]
      by_cases h3 : b % 64 ≤ j
      · have h4 : ¬ (j + (64 - b % 64) < 64) := by omega
        have h5 : j - b % 64 < 64 := by omega
        rw [decide_eq_true h3, decide_eq_true h5, decide_eq_false h4]
        simp only [Bool.true_and, Bool.false_and, Bool.or_false]
        congr 1; omega
      · have h4 : j + (64 - b % 64) < 64 := by omega
        rw [decide_eq_false h3, decide_eq_true h4]
        simp only [Bool.true_and, Bool.false_and, Bool.false_or]
        congr 1; omega
    · have h3 : b / 64 = i := by omega
      have h4 : b % 64 ≤ j := by omega
      have h5 : j - b % 64 < 64 := by omega
      rw [if_neg h2, if_pos h3, hpow, wn_bit, decide_eq_true h4, decide_eq_true h5]
      simp only [Bool.true_and]
      congr 1; omega
  · rw [hasS_neg _ (by omega)]
    unfold upW
    by_cases h2 : b / 64 < i
    · omega
    · rw [if_neg h2]
      split
      · rw [hpow]
        have : ¬ b % 64 ≤ j := by omega
        simp [this]
      · simp

theorem fill_step2 {w : World} {g t k : Nat} {f : Nat → Nat} {v : Value} {X : Int} (h : Blk w g t (fillA f k)) (hk : k < 4) (hX : X = (f k : Nat)) :
    Blk ((w.setCell ⟨g, k, none⟩ v).setCell ⟨g, k, none⟩ (.int .u64 X)).drew g t (fillA f (k + 1)) := by
  rw [hX, ← fillA_set f k hk]
  have h2 := ((h.set_ k v).set_ k (.int .u64 (f k : Nat))).drew
  rwa [Array.setIfInBounds_setIfInBounds] at h2
theorem up_or (s : NS) (q r k j : Nat) (hj : q + (j + 1) = k) (hr : r ≤ 63) :
    bits .or .u64 (IntKind.u64.wrap ((wn s (j + 1) : Int) * 2 ^ r)) ((wn s j : Int) / 2 ^ (64 - r)) = ((upW s q r k : Nat) : Int) := by
  have e1 : (wn s (j + 1) : Int) * 2 ^ r = ((wn s (j + 1) * 2 ^ r : Nat) : Int) := by simp
  have e2 : IntKind.u64.wrap (((wn s (j + 1) * 2 ^ r : Nat)) : Int) = ((wn s (j + 1) * 2 ^ r % 18446744073709551616 : Nat) : Int) := by rw [IntKind.wrap_u64]; omega
  have l1 : wn s j / 2 ^ (64 - r) ≤ wn s j := Nat.div_le_self _ _
  have l2 := wn_le s j
  rw [e1, e2, pow_cast, or_u64 _ _ (by omega) (by omega)]
  unfold upW
  rw [if_pos (by omega), show k - q = j + 1 by omega, show j + 1 - 1 = j by omega]
theorem turn_move (s : NS) (b : Int) (h0 : b < 0) : turnS (moveS (turnS s) (-b)) = moveS s b := ns_ext fun i hi => by
  unfold turnS
  rw [setOf_bit, moveS_bit, moveS_bit, decide_eq_true hi, decide_eq_true (show 255 - i < 256 by omega), Bool.true_and, Bool.true_and, Bool.true_and]
  by_cases h2 : (255 : Int) < (i : Int) - b
  · rw [hasS_neg _ (by omega), hasS_big _ h2]
  · obtain ⟨n, hn⟩ := Int.eq_ofNat_of_zero_le (show 0 ≤ (i : Int) - b by omega)
    have e : ((255 - i : Nat) : Int) - -b = ((255 - n : Nat) : Int) := by omega
    rw [hn, e]
    show hasS _ _ = hasS s (n : Nat)
    rw [hasS_nat, hasS_nat, setOf_bit, decide_eq_true (show 255 - n < 256 by omega), Bool.true_and]
    congr 1
    omega
theorem move_far (s : NS) (b : Int) (h : b < -255 ∨ 255 < b) : moveS s b = emptyS := ns_ext fun i hi => by
  rw [moveS_bit, empty_bit, decide_eq_true hi, Bool.true_and]
  rcases h with h | h
  · exact hasS_big _ (by omega)
  · exact hasS_neg _ (by omega)

end Go.Proofs.YtkgphbjneaagoaaDoor

/- The walk of the sets' Of; slices of numbers. -/
set_option linter.unusedVariables false
namespace Go.Proofs.YtkgphbjneaagoaaDoor
open Go.RowKit

/-! ### one word of a set written -/
abbrev nsA (s : NS) : Array Value := #[.int .u64 (wn s 0 : Nat), .int .u64 (wn s 1 : Nat), .int .u64 (wn s 2 : Nat), .int .u64 (wn s 3 : Nat)]
theorem nsA_set (s s' : NS) (q : Nat) (hq : q < 4) (h : ∀ k, k < 4 → k ≠ q → wn s k = wn s' k) : (nsA s).setIfInBounds q (.int .u64 (wn s' q : Nat)) = nsA s' := by
  have e : nsA s' = #[.int .u64 (wn s' 0 : Nat), .int .u64 (wn s' 1 : Nat), .int .u64 (wn s' 2 : Nat), .int .u64 (wn s' 3 : Nat)] := rfl
  rcases (show q = 0 ∨ q = 1 ∨ q = 2 ∨ q = 3 by omega) with rfl | rfl | rfl | rfl
  · rw [e, ← h 1 (by decide) (by decide), ← h 2 (by decide) (by decide), ← h 3 (by decide) (by decide)]; rfl
  · rw [e, ← h 0 (by decide) (by decide), ← h 2 (by decide) (by decide), ← h 3 (by decide) (by decide)]; rfl
  · rw [e, ← h 0 (by decide) (by decide), ← h 1 (by decide) (by decide), ← h 3 (by decide) (by decide)]; rfl
  · rw [e, ← h 0 (by decide) (by decide), ← h 1 (by decide) (by decide), ← h 2 (by decide) (by decide)]; rfl
theorem with_word (s : NS) (q r k : Nat) (hq : q < 4) (hr : r < 64) (hk : k < 4) : wn (withS s ((64 * q + r : Nat) : Int)) k = if k = q then wn s q ||| 2 ^ r else wn s k := by
  symm
  refine wn_eq ?_ fun j hj => ?_
  · split
    · exact Nat.or_lt_two_pow (wn_lt s q) (Nat.pow_lt_pow_right (by decide) hr)
    · exact wn_lt s k
  · have h2 : 64 * k + j < 256 := by omega
    rw [withS_bit, decide_eq_true h2, Bool.true_and]
    split
    · rename_i e
      subst e
      rw [Nat.testBit_or, wn_bit, decide_eq_true hj, Bool.true_and, Nat.testBit_two_pow]
      congr 1
      exact decide_eq_decide.2 (by omega)
    · rename_i e
      have : ¬ (((64 * k + j : Nat) : Int) = ((64 * q + r : Nat) : Int)) := by omega
      rw [wn_bit, decide_eq_true hj, Bool.true_and, decide_eq_false this, Bool.or_false]
theorem Blk.word {w : World} {g t q r : Nat} {s : NS} {X : Int} (h : Blk w g t (nsA s)) (hq : q < 4) (hr : r < 64) (hX : X = ((wn s q ||| 2 ^ r : Nat) : Int)) :
    Blk (w.setCell ⟨g, q, none⟩ (.int .u64 X)) g t (nsA (withS s ((64 * q + r : Nat) : Int))) := by
  have e := with_word s q r q hq hr hq
  rw [if_pos rfl] at e
  rw [hX, ← e, ← nsA_set s (withS s ((64 * q + r : Nat) : Int)) q hq (fun k hk hne => by rw [with_word s q r k hq hr hk, if_neg hne])]
  exact h.set_ _ _
theorem shl_one (r : Nat) (hr : r < 64) : IntKind.u64.wrap (2 ^ r) = ((2 ^ r : Nat) : Int) := by
  have h : 2 ^ r < 2 ^ 64 := Nat.pow_lt_pow_right (by decide) hr
  have e : (2 : Int) ^ r = ((2 ^ r : Nat) : Int) := by simp
  rw [e, wrap_u64_nat (by omega)]

end Go.Proofs.YtkgphbjneaagoaaDoor

/- The walks of the reference's functions on sets: power, Has, with, Of, Ints. -/
set_option linter.unusedVariables false
namespace Go.Proofs.YtkgphbjneaagoaaDoor
open Go.RowKit

theorem power_c (n : Nat) (hn : n < 64) (w : World) :
    Calls Tryd.prog 64 #[.int .i64 (n : Int)] w fun e w' => e = .returned (.int .u64 ((2 ^ n : Nat) : Int)) ∧ w = w' := by
  go_enter Tryd.func64, Tryd.ntmps64
  go_wp2_with fail
  go_loop [3, 4] (fun p i => ∃ k : Nat, k ≤ n ∧ i = .int .i64 k ∧ p = .int .u64 ((2 ^ k : Nat) : Int)) (fun _ i => n - (intOf i).toNat)
  case atStart => exact ⟨0, by omega, rfl, rfl⟩
  case round =>
    obtain ⟨k, hk, rfl, rfl⟩ := hrel
    by_cases hlt : k < n
    · have hp : 2 ^ (k + 1) < 2 ^ 64 := Nat.pow_lt_pow_right (by decide) (by omega)
      have e : IntKind.u64.wrap (2 ^ k * 2) = ((2 ^ (k + 1) : Nat) : Int) := by
        rw [show (2 : Int) ^ k * 2 = ((2 ^ (k + 1) : Nat) : Int) by simp [Int.pow_succ], wrap_u64_nat (by omega)]
      have HP := Lib.hid hp
      clear hp
      go_wp2
      go_round
      case rel => exact ⟨k + 1, by omega, by go_num, rfl⟩
      case measure => simp [intOf]; omega
    · obtain rfl : k = n := by omega
      go_wp2
      go_ret
      exact ⟨rfl, rfl⟩

theorem rhas_core (s : NS) (q r p y z : Nat) (i : Int) (b : Bool) (hq : q < 4) (hr : r < 64) (hp : p = 2 ^ r) (h0 : 0 ≤ i) (h1 : i < 256) (e1 : i.tdiv 64 = (q : Int)) (e2 : i.tmod 64 = (r : Int)) (e3 : IntKind.i64.wrap (q : Int) = (q : Int))
    (p0 : ¬ p = 0) (e4 : ((wn s q : Nat) : Int).tdiv (p : Int) = (y : Int)) (e5 : IntKind.u64.wrap (y : Int) = (y : Int)) (e6 : (y : Int).tmod 2 = (z : Int)) (e7 : ((z : Int) == 1) = b) (w : World) :
    Calls Tryd.prog 51 #[nsV s, .int .i64 i] w fun e w' => e = .returned (.bool b) ∧ Below w.heap.size w w' := by
  have g1 := ns_get s q hq
  have l1 : (q : Int) < 4 := by omega
  have l2 : 0 ≤ (q : Int) := by omega
  have HP : Hid (∀ w, Calls Tryd.prog 64 #[.int .i64 (r : Int)] w fun e w' => e = .returned (.int .u64 ((p : Nat) : Int)) ∧ w' = w) := Lib.hid fun w => by rw [hp]; exact still_of (power_c r hr w)
  clear hr hq hp
  go_enter Tryd.func51, Tryd.ntmps51
  go_wp2_with fail
  go_quiet ((go_at_call 64; exact Calls.quiet_of_same (HP.out _)))
  go_wp2
  go_ret
  exact ⟨rfl, below_drewN ((Below.refl _ _).alloc (Nat.le_refl _) _) _⟩

theorem tdiv_nat (a b : Nat) : ((a : Int).tdiv (b : Int)) = ((a / b : Nat) : Int) := by rw [Int.tdiv_eq_ediv_of_nonneg (by omega)]; exact div_cast a b
theorem tmod_nat (a b : Nat) : ((a : Int).tmod (b : Int)) = ((a % b : Nat) : Int) := by rw [Int.tmod_eq_emod_of_nonneg (by omega)]; simp
theorem split64 (i : Int) (h0 : 0 ≤ i) (h1 : i ≤ 255) : ∃ q r : Nat, i = ((64 * q + r : Nat) : Int) ∧ q < 4 ∧ r < 64 ∧ i.tdiv 64 = (q : Int) ∧ i.tmod 64 = (r : Int) ∧ IntKind.i64.wrap (q : Int) = (q : Int) := by
  obtain ⟨n, rfl⟩ := Int.eq_ofNat_of_zero_le h0
  refine ⟨n / 64, n % 64, by rw [Nat.div_add_mod], by omega, by omega, tdiv_nat n 64, tmod_nat n 64, by rw [IntKind.wrap_i64]; omega⟩
theorem rhas_in (s : NS) (i : Int) (h0 : 0 ≤ i) (h1 : i ≤ 255) (w : World) :
    Calls Tryd.prog 51 #[nsV s, .int .i64 i] w fun e w' => e = .returned (.bool (hasS s i)) ∧ Below w.heap.size w w' := by
  obtain ⟨q, r, hi, hq, hr, e1, e2, e3⟩ := split64 i h0 h1
  refine rhas_core s q r (2 ^ r) (wn s q / 2 ^ r) (wn s q / 2 ^ r % 2) i _ hq hr rfl h0 (by omega) e1 e2 e3 (by have := Nat.two_pow_pos r; omega) (tdiv_nat _ _) (wrap_u64_nat (by have := wn_le s q; have := Nat.div_le_self (wn s q) (2 ^ r); omega)) (tmod_nat _ 2) ?_ w
  rw [hi, hasS_nat, bit_wn, show (64 * q + r) / 64 = q by omega, show (64 * q + r) % 64 = r by omega, Nat.testBit_eq_decide_div_mod_eq]
  rw [Bool.eq_iff_iff, beq_iff_eq, decide_eq_true_eq]
  omega
theorem rhas_lo (s : NS) (i : Int) (h : i < 0) (w : World) :
    Calls Tryd.prog 51 #[nsV s, .int .i64 i] w fun e w' => e = .returned (.bool (hasS s i)) ∧ Below w.heap.size w w' := by
  have hd : decide (0 ≤ i) = false := decide_eq_false (by omega)
  have hr := hasS_neg s h
  have HR := Lib.hid hr
  clear hr
  go_enter Tryd.func51, Tryd.ntmps51
  go_wp2_with fail
  go_quiet (fail)
  go_wp2
  go_ret
  exact ⟨ret_bool HR.out.symm, below_drewN ((Below.refl _ _).alloc (Nat.le_refl _) _) _⟩
theorem rhas_hi (s : NS) (i : Int) (h : 255 < i) (w : World) :
    Calls Tryd.prog 51 #[nsV s, .int .i64 i] w fun e w' => e = .returned (.bool (hasS s i)) ∧ Below w.heap.size w w' := by
  have hd : decide (i < 256) = false := decide_eq_false (by omega)
  have h0 : 0 ≤ i := by omega
  have hr := hasS_big s h
  have HR := Lib.hid hr
  clear hr
  go_enter Tryd.func51, Tryd.ntmps51
  go_wp2_with fail
  go_quiet (fail)
  go_wp2
  go_ret
  exact ⟨ret_bool HR.out.symm, below_drewN ((Below.refl _ _).alloc (Nat.le_refl _) _) _⟩
theorem rhas_c (s : NS) (i : Int) (w : World) :
    Calls Tryd.prog 51 #[nsV s, .int .i64 i] w fun e w' => e = .returned (.bool (hasS s i)) ∧ Below w.heap.size w w' := by
  by_cases a : i < 0
  · exact rhas_lo s i a w
  · by_cases b : 255 < i
    · exact rhas_hi s i b w
    · exact rhas_in s i (by omega) (by omega) w

/-! ### with -/
theorem with_no (s : NS) (i : Int) (h : i < 0 ∨ 255 < i) (w : World) :
    Calls Tryd.prog 52 #[nsV s, .int .i64 i] w fun e w' => e = .returned (nsV s) ∧ Below w.heap.size w w' := by
  rcases h with h | h
  all_goals
    go_enter Tryd.func52, Tryd.ntmps52
    go_wp2_with fail
    exact post_cell rfl rfl (Blk.new' (by simp)) Tryd.underlying24 rfl (by kernel_rfl) rfl ⟨rfl, ((Below.refl _ _).alloc (by simp) _).alloc (by simp) _⟩
theorem with_old (s : NS) (i : Int) (h0 : 0 ≤ i) (h1 : i < 256) (h : hasS s i = true) (w : World) :
    Calls Tryd.prog 52 #[nsV s, .int .i64 i] w fun e w' => e = .returned (nsV s) ∧ Below w.heap.size w w' := by
  have hc := fun w => rhas_c s i w
  rw [h] at hc
  have HC := Lib.hid hc
  clear hc h
  go_enter Tryd.func52, Tryd.ntmps52
  go_wp2_with fail
  refine (HC.out _).mono ?_
  rintro e w1 ⟨rfl, hb⟩
  have h0 : Blk w1 w.heap.size 24 (nsA s) := Blk.after ((Blk.new' (by simp)).alloc _) hb
  have h3 : Blk w1 (w.heap.size + 1) 24 #[.int .u64 0, .int .u64 0, .int .u64 0, .int .u64 0] := Blk.after (Blk.new' (by simp)) hb
  have HL := Lib.hid (below_then (((Below.refl w.heap.size w).alloc (by simp) _).alloc (by simp) _) (by simp; omega) hb)
  obtain ⟨q1, q2, q3⟩ := h0.rules
  obtain ⟨r1, r2, r3⟩ := h3.rules
  have H3 := Lib.hid h3
  clear h3 hb h0
  go_wp2
  exact post_cell rfl rfl (H3.out.four _ _ _ _) Tryd.underlying24 rfl (by kernel_rfl) rfl ⟨rfl, below_four HL.out (by omega) _ _ _ _⟩
set_option maxHeartbeats 1000000 in
theorem with_core (s : NS) (q r p y : Nat) (i : Int) (h0 : 0 ≤ i) (h1 : i < 256) (h : hasS s i = false) (hq : q < 4) (hr : r < 64) (hp : p = 2 ^ r) (e1 : i.tdiv 64 = (q : Int)) (e2 : i.tmod 64 = (r : Int)) (e3 : IntKind.i64.wrap (q : Int) = (q : Int))
    (e4 : IntKind.u64.wrap (((wn s q : Nat) : Int) + (p : Int)) = (y : Int)) (hy : y = wn s q ||| 2 ^ r) (w : World) :
    Calls Tryd.prog 52 #[nsV s, .int .i64 i] w fun e w' => e = .returned (nsV (withS s ((64 * q + r : Nat) : Int))) ∧ Below w.heap.size w w' := by
  have hc := fun w => rhas_c s i w
  rw [h] at hc
  have HC := Lib.hid hc
  have HP : Hid (∀ w, Calls Tryd.prog 64 #[.int .i64 (r : Int)] w fun e w' => e = .returned (.int .u64 ((p : Nat) : Int)) ∧ w' = w) := Lib.hid fun w => by rw [hp]; exact still_of (power_c r hr w)
  have g1 := ns_get s q hq
  have l1 : (q : Int) < 4 := by omega
  have l2 : 0 ≤ (q : Int) := by omega
  have HQ := Lib.hid hq; have HR := Lib.hid hr; have HY := Lib.hid hy
  clear hc h hq hr hp hy
  go_enter Tryd.func52, Tryd.ntmps52
  go_wp2_with fail
  refine (HC.out _).mono ?_
  rintro e w1 ⟨rfl, hb⟩
  have h4 : Blk w1 w.heap.size 24 (nsA s) := Blk.after ((Blk.new' (by simp)).alloc _) hb
  have h3 : Blk w1 (w.heap.size + 1) 24 #[.int .u64 0, .int .u64 0, .int .u64 0, .int .u64 0] := Blk.after (Blk.new' (by simp)) hb
  have HL := Lib.hid (below_then (((Below.refl w.heap.size w).alloc (by simp) _).alloc (by simp) _) (by simp; omega) hb)
  obtain ⟨q1, q2, q3⟩ := h4.rules
  have H3 := Lib.hid h3
  have H4 := Lib.hid h4
  clear h3 hb h4
  go_wp2_with fail
  refine region_tail 9 (by kernel_rfl) (by kernel_rfl) ?_
  simp only [List.take_succ_cons, List.take_zero, List.drop_succ_cons, List.drop_zero]
  repeat still_step
  still_call (HP.out _)
  repeat still_step
  refine wpStill_nil ?_
  have h5 := (H4.out.word HQ.out HR.out (X := (y : Int)) (by rw [← HY.out])).drew
  have H5 := Lib.hid h5
  have z3 := (H3.out.far (p := ⟨w.heap.size, q, none⟩) (by dsimp only; omega) (.int .u64 (y : Int)))
  obtain ⟨r1, r2, r3⟩ := H3.out.rules
  have Z3 := Lib.hid z3
  clear z3 h5
  go_wp2_with (refine wpList_load_row rfl 24 _ rfl w.heap.size rfl 24 (nsA (withS s ((64 * q + r : Nat) : Int))) (0, 0) _ H5.out Tryd.underlying24 rfl (by kernel_rfl) ?_)
  exact post_cell rfl rfl (Z3.out.four _ _ _ _).drew Tryd.underlying24 rfl (by kernel_rfl) rfl ⟨rfl, (below_four (HL.out.setCell (by dsimp only; omega) _) (by omega) _ _ _ _).drew⟩
theorem bit_free (s : NS) (q r : Nat) (hr : r < 64) (h : s.getLsbD (64 * q + r) = false) : wn s q + 2 ^ r = wn s q ||| 2 ^ r := by
  have e : wn s q ||| 2 ^ r = 2 ^ r * (wn s q / 2 ^ r ||| 1) + wn s q % 2 ^ r := by
    apply Nat.eq_of_testBit_eq
    intro j
    rw [Nat.testBit_or, Nat.testBit_two_pow_mul_add _ (Nat.mod_lt _ (Nat.two_pow_pos r)), Nat.testBit_two_pow, Nat.testBit_mod_two_pow]
    by_cases hj : j < r
    · have : ¬ r = j := by omega
      simp [hj, this]
    · rw [if_neg hj, Nat.testBit_or, Nat.testBit_div_two_pow, show j - r + r = j by omega]
      congr 1
      by_cases e : r = j
      · subst e; simp
      · obtain ⟨d, hd⟩ : ∃ d, j - r = d + 1 := ⟨j - r - 1, by omega⟩
        rw [hd, Nat.testBit_succ]
        simp [e]
  have hb : wn s q / 2 ^ r % 2 = 0 := by
    rw [bit_wn, show (64 * q + r) / 64 = q by omega, show (64 * q + r) % 64 = r by omega, Nat.testBit_eq_decide_div_mod_eq, decide_eq_false_iff_not] at h
    omega
  have e2 : wn s q / 2 ^ r ||| 1 = wn s q / 2 ^ r + 1 := by
    generalize wn s q / 2 ^ r = a at *
    apply Nat.eq_of_testBit_eq
    intro j
    rw [Nat.testBit_or]
    cases j with
    | zero => simp [Nat.testBit_zero]; omega
    | succ j => rw [Nat.testBit_succ, Nat.testBit_succ, Nat.testBit_succ, show (a + 1) / 2 = a / 2 by omega]; simp
  rw [e, e2, Nat.mul_add, Nat.mul_one]
  have := Nat.div_add_mod (wn s q) (2 ^ r)
  omega
theorem with_c (s : NS) (i : Int) (w : World) :
    Calls Tryd.prog 52 #[nsV s, .int .i64 i] w fun e w' => e = .returned (nsV (withS s i)) ∧ Below w.heap.size w w' := by
  by_cases h : i < 0 ∨ 255 < i
  · rw [withS_out s i h]; exact with_no s i h w
  · cases hh : hasS s i with
    | true => rw [withS_in s i hh]; exact with_old s i (by omega) (by omega) hh w
    | false =>
      obtain ⟨q, r, hi, hq, hr, e1, e2, e3⟩ := split64 i (by omega) (by omega)
      have hf : s.getLsbD (64 * q + r) = false := by rw [hi, hasS_nat] at hh; exact hh
      have hs := bit_free s q r hr hf
      have hl : wn s q ||| 2 ^ r < 2 ^ 64 := Nat.or_lt_two_pow (wn_lt s q) (Nat.pow_lt_pow_right (by decide) hr)
      have hw := with_core s q r (2 ^ r) (wn s q ||| 2 ^ r) i (by omega) (by omega) hh hq hr rfl e1 e2 e3 (by rw [← Int.natCast_add, hs]; exact wrap_u64_nat (by omega)) rfl w
      rw [← hi] at hw
      exact hw

/-! ### Of, Ints -/
set_option maxHeartbeats 1000000 in
theorem rof_c (A : Option Addr) (n c : Nat) (xs : List Int) (w : World) (hR : ReadsI w A n xs) :
    Calls Tryd.prog 53 #[.slice A n c] w fun e w' => e = .returned (nsV (ofL xs)) ∧ Below w.heap.size w w' := by
  have hn := hR.2.1
  have hl := hR.1
  have HL0 := Lib.hid hl
  have HR := Lib.hid hR
  clear hR hl
  go_enter Tryd.func53, Tryd.ntmps53
  go_wp2_with fail
  go_loopw [4] (fun i wr => ∃ k : Nat, k ≤ n ∧ i = .int .i64 k ∧ Blk wr w.heap.size 24 #[.int .u64 0, .int .u64 0, .int .u64 0, .int .u64 0] ∧ Blk wr (w.heap.size + 1) 24 (nsA (ofL (xs.take k))) ∧ Below w.heap.size w wr) (fun i _ => n - (intOf i).toNat)
  case atStart =>
    refine ⟨0, by omega, rfl, (Blk.new' (by simp)).alloc _, ?_, ((Below.refl _ _).alloc (by simp) _).alloc (by simp) _⟩
    have e : nsA (ofL (xs.take 0)) = #[.int .u64 0, .int .u64 0, .int .u64 0, .int .u64 0] := by simp [nsA, ofL_nil, wn_empty]
    rw [e]
    exact Blk.new' (by simp)
  case round =>
    obtain ⟨k, hk, rfl, hB0, hB1, hbl⟩ := hrel
    have H0 := Lib.hid hB0; have H1 := Lib.hid hB1; have HL := Lib.hid hbl
    obtain ⟨r1, r2, r3⟩ := hB0.rules
    obtain ⟨q1, q2, q3⟩ := hB1.rules
    clear hB0 hB1 hbl
    by_cases hlt : k < n
    · obtain ⟨ad, rfl, hcell⟩ := HR.out.at_ HL.out hlt
      have hts := take_snoc xs k (by rw [HL0.out]; exact hlt)
      obtain ⟨x, hxe⟩ : ∃ x, xs.getD k 0 = x := ⟨_, rfl⟩
      rw [hxe] at hcell hts
      have HT := Lib.hid hts
      have l1 : (k : Int) < (n : Int) := by omega
      have l2 : 0 ≤ (k : Int) := by omega
      clear hts hxe r1 r2 r3
      go_wp2_with fail
      refine region_tail 5 (by kernel_rfl) (by kernel_rfl) ?_
      simp only [List.take_succ_cons, List.take_zero, List.drop_succ_cons, List.drop_zero]
      repeat still_step
      refine wpStill_nil ?_
      go_wp2_with fail
      refine (with_c _ _ _).mono ?_
      rintro e w1 ⟨rfl, hb⟩
      have b0 := H0.out.drew.after hb
      have b1 := H1.out.drew.after hb
      have HB0 := Lib.hid b0
      have HB1 := Lib.hid b1
      have HL2 := Lib.hid (below_then HL.out.drew HL.out.size hb)
      obtain ⟨s1, s2, s3⟩ := b1.rules
      clear b0 b1 hb q1 q2 q3
      go_wp2
      go_roundw
      case rel =>
        refine ⟨k + 1, by omega, by go_num, HB0.out.far4 (by omega) _ _ _ _, ?_, below_four HL2.out (by omega) _ _ _ _⟩
        rw [HT.out, ofL_snoc]
        exact HB1.out.four _ _ _ _
      case measure => simp [intOf]; omega
    · obtain rfl : k = n := by omega
      have e4 : xs.take k = xs := by rw [← HL0.out]; exact List.take_length
      rw [e4] at q1 H1
      clear e4
      go_wp2
      exact post_cell rfl rfl (H0.out.four _ _ _ _) Tryd.underlying24 rfl (by kernel_rfl) rfl ⟨rfl, below_four HL.out (by omega) _ _ _ _⟩

theorem getD_eq_of {xs ys : List Int} (hl : xs.length = ys.length) (h : ∀ j, j < xs.length → xs.getD j 0 = ys.getD j 0) : xs = ys := by
  apply List.ext_getElem hl
  intro j h1 h2
  have := h j h1
  simpa [List.getD_eq_getElem?_getD, List.getElem?_eq_getElem h1, List.getElem?_eq_getElem h2] using this
end Go.Proofs.YtkgphbjneaagoaaDoor

/- The walks that make lists: List of both sides; the reference's Span, And, Not, Or. -/
set_option linter.unusedVariables false
namespace Go.Proofs.YtkgphbjneaagoaaDoor
open Go.RowKit

theorem own_nil (W : World) (base : Nat) (e : TypeId) (size : Nat) : W.ownsRow base e size (.slice none 0 0) 0 [] := ⟨by simp, .inl ⟨rfl, rfl⟩⟩
theorem own_base {w : World} {base : Nat} {e : TypeId} {size n : Nat} {v : Value} {xs : List Value} (h : w.ownsRow base e size v n xs) (k : Nat) (hk : v.ownBlock = some k) : base ≤ k := by
  rcases h.2 with ⟨rfl, _⟩ | ⟨g, cap, cur, rfl, hb, _⟩
  · simp [Value.ownBlock] at hk
  · have : g = k := by simpa [Value.ownBlock] using hk
    omega
theorem own_reads {w : World} {base n : Nat} {e : TypeId} {v : Value} {xs : List Int} (h : w.ownsRow base e 1 v n (nums xs)) : ∃ A c, v = .slice A n c ∧ ReadsI w A n xs ∧ n ≤ c := by
  have hl : xs.length = n := by have := h.1; simp [nums] at this; exact this
  rcases Nat.eq_zero_or_pos n with h0 | h0
  · rcases h.2 with ⟨rfl, rfl⟩ | ⟨g, cap, cur, rfl, _⟩
    · exact ⟨none, 0, rfl, ⟨hl, by omega, fun hp => absurd hp (by omega)⟩, by omega⟩
    · exact ⟨_, cap, rfl, ⟨hl, by omega, fun hp => absurd hp (by omega)⟩, by omega⟩
  · obtain ⟨g, cap, rfl, _, _⟩ := h.form h0
    have hm : n ≤ 9223372036854775807 ∧ n ≤ cap := by
      rcases h.2 with ⟨_, h1⟩ | ⟨g', cap', cur, he, _, _, h1, h2, _⟩
      · omega
      · simp only [maxLen] at h2
        injection he with _ _ he
        omega
    refine ⟨_, cap, rfl, ⟨hl, hm.1, fun _ => ⟨_, rfl, fun j hj => h.cells (g := g) rfl j _ ?_⟩⟩, hm.2⟩
    simp [nums, List.getElem?_eq_getElem (show j < xs.length by omega), List.getD_eq_getElem?_getD]
theorem own_readsA {w : World} {base n m c : Nat} {e : TypeId} {A : Option Addr} {xs : List Int} (h : w.ownsRow base e 1 (.slice A m c) n (nums xs)) : ReadsI w A n xs := by
  obtain ⟨A', c', hv, hR, _⟩ := own_reads h
  injection hv with h1 _ _
  subst h1
  exact hR
theorem own_four {w : World} {base : Nat} {e : TypeId} {size n : Nat} {v : Value} {xs : List Value} (h : w.ownsRow base e size v n xs) {g : Nat} (hg : g < base) (a b c d : Value) :
    ((((w.setCell ⟨g, 0, none⟩ a).setCell ⟨g, 1, none⟩ b).setCell ⟨g, 2, none⟩ c).setCell ⟨g, 3, none⟩ d).ownsRow base e size v n xs :=
  ownsRow_setCell_below (ownsRow_setCell_below (ownsRow_setCell_below (ownsRow_setCell_below h hg a) hg b) hg c) hg d
theorem own_after {w w1 : World} {base : Nat} {e : TypeId} {size n : Nat} {v : Value} {xs : List Value} (h : w.ownsRow base e size v n xs) (hb : Below w.heap.size w w1) : w1.ownsRow base e size v n xs :=
  h.kept (row := none) ⟨hb.os, hb.tape, hb.output, hb.size, fun i hi _ => hb.block i hi⟩ (by cases v.ownBlock <;> simp)
theorem own_mono {w : World} {base base' : Nat} {e : TypeId} {size n : Nat} {v : Value} {xs : List Value} (h : w.ownsRow base e size v n xs) (hb : base' ≤ base) : w.ownsRow base' e size v n xs := by
  refine ⟨h.1, ?_⟩
  rcases h.2 with h2 | ⟨g, cap, cur, h1, h2, r⟩
  · exact .inl h2
  · exact .inr ⟨g, cap, cur, h1, Nat.le_trans hb h2, r⟩
theorem info_int : (Tryd.prog.info? 3).map (fun i => (i.zero, i.size, i.bytes)) = some (some (.int .i64 0), 1, 8) := by kernel_rfl

/-- append(v, y) of one number onto a row of the call's own. -/
theorem append_num {ops : Array Oper} {rest : List Oper} {o : Oper} {a : Act} {Q : Exit → Act → World → Prop} {W : World} (base : Nat) (hgd : o.guard = none) (s x : Operand)
    (ho : o.op = .call { callee := .builtin .append, args := #[s, x], argTypes := #[103, 103] })
    (v : Value) (xs : List Int) (y : Int) (hs : a.eval s = v) (hx : a.eval x = .slice (some ⟨W.heap.size, 0, none⟩) 1 1)
    (HO : W.ownsRow base 3 1 v xs.length (nums xs)) (hbase : base ≤ W.heap.size) (hl : xs.length + 1 ≤ 17592186044416)
    (h : ∀ v1 w1, w1.ownsRow base 3 1 v1 (xs ++ [y]).length (nums (xs ++ [y])) → W.grownBy w1 v.ownBlock → (∀ k, v.ownBlock = some k → base ≤ k) → wpList Tryd.prog ops Q rest (a.put o.dst v1) w1) :
    wpList Tryd.prog ops Q (o :: rest) a (W.alloc (.cells #[.int .i64 y] 3)) := by
  obtain ⟨i0, hi, hzz⟩ := Option.map_eq_some_iff.1 info_int
  simp only [Prod.mk.injEq] at hzz
  obtain ⟨hz0, hz1, hz2⟩ := hzz
  refine wpList_append_own (W.alloc (.cells #[.int .i64 y] 3)) hgd s x 103 ho base 3 i0 (.int .i64 0) 1 8 Tryd.underlying103 hi hz0 hz1 hz2 rfl (by omega) v xs.length (nums xs) hs (HO.alloc _) ⟨W.heap.size, 0, none⟩ 1 1 [.int .i64 y] hx rfl
    (World.news_of_block (cs := #[.int .i64 y]) (t := 3) (fr := (0, 0)) (heap_alloc_new W _)) (by simp [Value.oneCell']) (by simp only [maxLen]; omega) (by omega) (by simp; omega) ?_
  intro v1 w1 hown hg _
  exact h v1 w1 (by simpa [nums] using hown) (World.grownBy.trans (World.grownBy_alloc W _ _) hg) (own_base HO)

theorem lst_take_has (s : NS) (k : Nat) : ((List.range (k + 1)).filter fun i => s.getLsbD i) = ((List.range k).filter fun i => s.getLsbD i) ++ (if s.getLsbD k then [k] else []) := by
  rw [List.range_succ, List.filter_append]
  congr 1
  cases h : s.getLsbD k <;> simp [h]
def lstR (s : NS) (k : Nat) : List Int := ((List.range k).filter fun i => s.getLsbD i).map Int.ofNat
theorem lstR_succ_true (s : NS) (k : Nat) (h : s.getLsbD k = true) : lstR s (k + 1) = lstR s k ++ [(k : Int)] := by simp [lstR, lst_take_has, h]
theorem lstR_succ_false (s : NS) (k : Nat) (h : s.getLsbD k = false) : lstR s (k + 1) = lstR s k := by simp [lstR, lst_take_has, h]
theorem lstR_len (s : NS) (k : Nat) : (lstR s k).length ≤ k := by
  have := List.length_filter_le (fun i => s.getLsbD i) (List.range k)
  simpa [lstR] using this
theorem lstR_all (s : NS) : lstR s 256 = lst s := rfl

theorem Blk.own {w w1 : World} {g : Nat} {t : TypeId} {cs : Array Value} {v : Value} (h : Blk w g t cs) (hg : w.grownBy w1 v.ownBlock) (hb : ∀ k, v.ownBlock = some k → g + 1 ≤ k) : Blk w1 g t cs :=
  h.grown hg (fun e => by have := hb g e.symm; omega)
theorem below_own {B b : Nat} {w0 w w1 : World} {v : Value} (h : Below B w0 w) (hg : w.grownBy w1 v.ownBlock) (hB : B ≤ w.heap.size) (hb : ∀ k, v.ownBlock = some k → b ≤ k) (hBb : B ≤ b) : Below B w0 w1 :=
  h.grown hg hB (fun k hk => Nat.le_trans hBb (hb k hk))

set_option maxRecDepth 100000 in
set_option maxHeartbeats 1000000 in
theorem rlist_c (s : NS) (w : World) :
    Calls Tryd.prog 49 #[nsV s] w fun e w' => ∃ v, e = .returned v ∧ w'.ownsRow w.heap.size 3 1 v (lst s).length (nums (lst s)) ∧ Below w.heap.size w w' := by
  go_enter Tryd.func49, Tryd.ntmps49
  go_wp2_with fail
  go_loopw [3, 4] (fun l i wr => ∃ k : Nat, k ≤ 256 ∧ i = .int .i64 k ∧ Blk wr w.heap.size 24 (nsA s) ∧ wr.ownsRow (w.heap.size + 1) 3 1 l (lstR s k).length (nums (lstR s k)) ∧ Below w.heap.size w wr) (fun _ i _ => 256 - (intOf i).toNat)
  case atStart =>
    exact ⟨0, by omega, rfl, Blk.new' rfl, own_nil _ _ _ _, (Below.refl _ _).alloc (Nat.le_refl _) _⟩
  case round =>
    obtain ⟨k, hk, rfl, hB0, hown, hbl⟩ := hrel
    have H0 := Lib.hid hB0; have HO := Lib.hid hown; have HL := Lib.hid hbl
    obtain ⟨r1, r2, r3⟩ := hB0.rules
    clear hB0 hown hbl
    by_cases hlt : k < 256
    · go_wp2_with fail
      refine (rhas_c s k _).mono ?_
      rintro e w1 ⟨rfl, hb⟩
      have hh := hasS_nat s k
      have H1 := Lib.hid (H0.out.after hb)
      have HO1 := Lib.hid (own_after HO.out hb)
      have HL1 := Lib.hid (below_then HL.out HL.out.size hb)
      have hsz : w.heap.size + 1 ≤ w1.heap.size := by have := H1.out.lt; omega
      clear hb r1 r2 r3
      have hlen := lstR_len s k
      cases hv : s.getLsbD k with
      | false =>
        rw [hv] at hh
        have HE := Lib.hid (lstR_succ_false s k hv)
        clear hv
        go_wp2_with fail
        go_roundw
        case rel => exact ⟨k + 1, by omega, by go_num, H1.out, by rw [HE.out]; exact HO1.out, HL1.out⟩
        case measure => simp [intOf]; omega
      | true =>
        rw [hv] at hh
        have HE := Lib.hid (lstR_succ_true s k hv)
        clear hv
        go_wp2_with (at_builtin; go_must (refine append_num (w.heap.size + 1) rfl (.tmp 12) (.tmp 14) rfl _ (lstR s k) k rfl rfl HO1.out (by omega) (by omega) ?_; intro v1 w2 hown2 hg hbb))
        go_roundw
        case rel => exact ⟨k + 1, by omega, by go_num, H1.out.own hg hbb, by rw [HE.out]; exact hown2, below_own HL1.out hg (by omega) hbb (by omega)⟩
        case measure => simp [intOf]; omega
    · obtain rfl : k = 256 := by omega
      go_wp2
      go_ret
      exact ⟨_, rfl, own_mono HO.out (by omega), HL.out⟩

/-! ### a set that is gathered number by number -/
def accS (p : Nat → Bool) (k : Nat) : NS := setOf fun i => decide (i < k) && p i
theorem accS_zero (p : Nat → Bool) : accS p 0 = emptyS := ns_ext fun i hi => by unfold accS; rw [setOf_bit, empty_bit]; simp
theorem accS_true (p : Nat → Bool) (k : Nat) (h : p k = true) : accS p (k + 1) = withS (accS p k) k := ns_ext fun i hi => by
  unfold accS
  rw [setOf_bit, withS_bit, setOf_bit, decide_eq_true hi]
  simp only [Bool.true_and]
  by_cases e : i = k
  · subst e; simp [h]
  · have e2 : ¬ ((i : Int) = (k : Int)) := by omega
    rw [decide_eq_false e2, Bool.or_false]
    congr 1
    exact decide_eq_decide.2 (by omega)
theorem accS_false (p : Nat → Bool) (k : Nat) (h : p k = false) : accS p (k + 1) = accS p k := ns_ext fun i hi => by
  unfold accS
  rw [setOf_bit, setOf_bit]
  by_cases e : i = k
  · subst e; simp [h]
  · congr 2
    exact decide_eq_decide.2 (by omega)
theorem accS_all (p : Nat → Bool) (s : NS) (h : ∀ i, i < 256 → s.getLsbD i = p i) : accS p 256 = s := ns_ext fun i hi => by
  unfold accS; rw [setOf_bit, h i hi]; simp [hi]
theorem nsA_empty (p : Nat → Bool) : nsA (accS p 0) = #[.int .u64 0, .int .u64 0, .int .u64 0, .int .u64 0] := by simp [nsA, accS_zero, wn_empty]

set_option maxRecDepth 100000 in
set_option maxHeartbeats 2000000 in
theorem rand_c (s t : NS) (w : World) :
    Calls Tryd.prog 39 #[nsV s, nsV t] w fun e w' => e = .returned (nsV (s &&& t)) ∧ Below w.heap.size w w' := by
  obtain ⟨p, hp⟩ : ∃ p : Nat → Bool, p = fun i => s.getLsbD i && t.getLsbD i := ⟨_, rfl⟩
  have he := accS_all p (s &&& t) (fun i hi => by rw [BitVec.getLsbD_and, hp])
  have HEND := Lib.hid he
  have HP := Lib.hid hp
  clear he hp
  go_enter Tryd.func39, Tryd.ntmps39
  go_wp2_with fail
  go_loopw [6] (fun i wr => ∃ k : Nat, k ≤ 256 ∧ i = .int .i64 k ∧ Blk wr w.heap.size 24 (nsA s) ∧ Blk wr (w.heap.size + 1) 24 (nsA t) ∧ Blk wr (w.heap.size + 2) 24 #[.int .u64 0, .int .u64 0, .int .u64 0, .int .u64 0] ∧ Blk wr (w.heap.size + 3) 24 (nsA (accS p k)) ∧ Below w.heap.size w wr) (fun i _ => 256 - (intOf i).toNat)
  case atStart => exact ⟨0, by omega, rfl, (((Blk.new' (by simp)).alloc _).alloc _).alloc _, ((Blk.new' (by simp)).alloc _).alloc _, (Blk.new' (by simp)).alloc _, by rw [nsA_empty]; exact Blk.new' (by simp), ((((Below.refl _ _).alloc (by simp) _).alloc (by simp) _).alloc (by simp; omega) _).alloc (by simp; omega) _⟩
  case round =>
    obtain ⟨k, hk, rfl, hA, hB, hB0, hB1, hbl⟩ := hrel
    have HA := Lib.hid hA; have HB := Lib.hid hB; have H0 := Lib.hid hB0; have H1 := Lib.hid hB1; have HL := Lib.hid hbl
    obtain ⟨r1, r2, r3⟩ := hB0.rules
    obtain ⟨q1, q2, q3⟩ := hB1.rules
    clear hB0 hB1 hbl
    by_cases hlt : k < 256
    · clear r1 r2 r3 q1 q2 q3
      obtain ⟨a1, a2, a3⟩ := hA.rules
      clear hA hB
      cases hs : s.getLsbD k with
      | false =>
        have HE := Lib.hid (accS_false p k (by rw [HP.out]; simp [hs]))
        have hh : hasS s k = false := by rw [hasS_nat]; exact hs
        clear hs
        go_wp2_with fail
        refine (rhas_c s k _).mono ?_
        rintro e w1 ⟨rfl, hbb⟩
        have HA1 := Lib.hid (HA.out.after hbb); have HB1 := Lib.hid (HB.out.after hbb); have H01 := Lib.hid (H0.out.after hbb); have H11 := Lib.hid (H1.out.after hbb)
        have HL1 := Lib.hid (below_then HL.out HL.out.size hbb)
        clear hbb a1 a2 a3
        go_wp2_with fail
        go_roundw
        case rel => exact ⟨k + 1, by omega, by go_num, HA1.out, HB1.out, H01.out, by rw [HE.out]; exact H11.out, HL1.out⟩
        case measure => simp [intOf]; omega
      | true =>
        have hh : hasS s k = true := by rw [hasS_nat]; exact hs
        cases ht : t.getLsbD k with
        | false =>
          have HE := Lib.hid (accS_false p k (by rw [HP.out]; simp [ht]))
          have hh2 : hasS t k = false := by rw [hasS_nat]; exact ht
          clear hs ht
          go_wp2_with fail
          refine (rhas_c s k _).mono ?_
          rintro e w1 ⟨rfl, hbb⟩
          have HA1 := Lib.hid (HA.out.after hbb); have HB1 := Lib.hid (HB.out.after hbb); have H01 := Lib.hid (H0.out.after hbb); have H11 := Lib.hid (H1.out.after hbb)
          have HL1 := Lib.hid (below_then HL.out HL.out.size hbb)
          obtain ⟨b1, b2, b3⟩ := HB1.out.rules
          clear hbb a1 a2 a3
          go_wp2_with fail
          refine (rhas_c t k _).mono ?_
          rintro e w2 ⟨rfl, hbb⟩
          have HA2 := Lib.hid (HA1.out.after hbb); have HB2 := Lib.hid (HB1.out.after hbb); have H02 := Lib.hid (H01.out.after hbb); have H12 := Lib.hid (H11.out.after hbb)
          have HL2 := Lib.hid (below_then HL1.out HL1.out.size hbb)
          clear hbb b1 b2 b3
          go_wp2_with fail
          go_roundw
          case rel => exact ⟨k + 1, by omega, by go_num, HA2.out, HB2.out, H02.out, by rw [HE.out]; exact H12.out, HL2.out⟩
          case measure => simp [intOf]; omega
        | true =>
          have HE := Lib.hid (accS_true p k (by rw [HP.out]; simp [hs, ht]))
          have hh2 : hasS t k = true := by rw [hasS_nat]; exact ht
          clear hs ht
          go_wp2_with fail
          refine (rhas_c s k _).mono ?_
          rintro e w1 ⟨rfl, hbb⟩
          have HA1 := Lib.hid (HA.out.after hbb); have HB1 := Lib.hid (HB.out.after hbb); have H01 := Lib.hid (H0.out.after hbb); have H11 := Lib.hid (H1.out.after hbb)
          have HL1 := Lib.hid (below_then HL.out HL.out.size hbb)
          obtain ⟨b1, b2, b3⟩ := HB1.out.rules
          clear hbb a1 a2 a3
          go_wp2_with fail
          refine (rhas_c t k _).mono ?_
          rintro e w2 ⟨rfl, hbb⟩
          have HA2 := Lib.hid (HA1.out.after hbb); have HB2 := Lib.hid (HB1.out.after hbb); have H02 := Lib.hid (H01.out.after hbb); have H12 := Lib.hid (H11.out.after hbb)
          have HL2 := Lib.hid (below_then HL1.out HL1.out.size hbb)
          obtain ⟨c1, c2, c3⟩ := H12.out.rules
          clear hbb b1 b2 b3
          go_wp2_with fail
          refine (with_c _ _ _).mono ?_
          rintro e w3 ⟨rfl, hbb⟩
          have HA3 := Lib.hid (HA2.out.after hbb); have HB3 := Lib.hid (HB2.out.after hbb); have H03 := Lib.hid (H02.out.after hbb); have H13 := Lib.hid (H12.out.after hbb)
          have HL3 := Lib.hid (below_then HL2.out HL2.out.size hbb)
          clear hbb c1 c2 c3
          obtain ⟨d1, d2, d3⟩ := H13.out.rules
          go_wp2
          go_roundw
          case rel => exact ⟨k + 1, by omega, by go_num, HA3.out.far4 (by omega) _ _ _ _, HB3.out.far4 (by omega) _ _ _ _, H03.out.far4 (by omega) _ _ _ _, by rw [HE.out]; exact H13.out.four _ _ _ _, below_four HL3.out (by omega) _ _ _ _⟩
          case measure => simp [intOf]; omega
    · obtain rfl : k = 256 := by omega
      clear hA hB
      rw [HEND.out] at q1 H1
      go_wp2
      exact post_cell rfl rfl (H0.out.four _ _ _ _) Tryd.underlying24 rfl (by kernel_rfl) rfl ⟨rfl, below_four HL.out (by omega) _ _ _ _⟩
set_option maxRecDepth 100000 in
set_option maxHeartbeats 2000000 in
theorem rnot_c (s t : NS) (w : World) :
    Calls Tryd.prog 40 #[nsV s, nsV t] w fun e w' => e = .returned (nsV (notS s t)) ∧ Below w.heap.size w w' := by
  obtain ⟨p, hp⟩ : ∃ p : Nat → Bool, p = fun i => s.getLsbD i && !t.getLsbD i := ⟨_, rfl⟩
  have he := accS_all p (notS s t) (fun i hi => by rw [notS_bit _ _ _ hi, hp])
  have HEND := Lib.hid he
  have HP := Lib.hid hp
  clear he hp
  go_enter Tryd.func40, Tryd.ntmps40
  go_wp2_with fail
  go_loopw [6] (fun i wr => ∃ k : Nat, k ≤ 256 ∧ i = .int .i64 k ∧ Blk wr w.heap.size 24 (nsA s) ∧ Blk wr (w.heap.size + 1) 24 (nsA t) ∧ Blk wr (w.heap.size + 2) 24 #[.int .u64 0, .int .u64 0, .int .u64 0, .int .u64 0] ∧ Blk wr (w.heap.size + 3) 24 (nsA (accS p k)) ∧ Below w.heap.size w wr) (fun i _ => 256 - (intOf i).toNat)
  case atStart => exact ⟨0, by omega, rfl, (((Blk.new' (by simp)).alloc _).alloc _).alloc _, ((Blk.new' (by simp)).alloc _).alloc _, (Blk.new' (by simp)).alloc _, by rw [nsA_empty]; exact Blk.new' (by simp), ((((Below.refl _ _).alloc (by simp) _).alloc (by simp) _).alloc (by simp; omega) _).alloc (by simp; omega) _⟩
  case round =>
    obtain ⟨k, hk, rfl, hA, hB, hB0, hB1, hbl⟩ := hrel
    have HA := Lib.hid hA; have HB := Lib.hid hB; have H0 := Lib.hid hB0; have H1 := Lib.hid hB1; have HL := Lib.hid hbl
    obtain ⟨r1, r2, r3⟩ := hB0.rules
    obtain ⟨q1, q2, q3⟩ := hB1.rules
    clear hB0 hB1 hbl
    by_cases hlt : k < 256
    · clear r1 r2 r3 q1 q2 q3
      obtain ⟨a1, a2, a3⟩ := hA.rules
      clear hA hB
      cases hs : s.getLsbD k with
      | false =>
        have HE := Lib.hid (accS_false p k (by rw [HP.out]; simp [hs]))
        have hh : hasS s k = false := by rw [hasS_nat]; exact hs
        clear hs
        go_wp2_with fail
        refine (rhas_c s k _).mono ?_
        rintro e w1 ⟨rfl, hbb⟩
        have HA1 := Lib.hid (HA.out.after hbb); have HB1 := Lib.hid (HB.out.after hbb); have H01 := Lib.hid (H0.out.after hbb); have H11 := Lib.hid (H1.out.after hbb)
        have HL1 := Lib.hid (below_then HL.out HL.out.size hbb)
        clear hbb a1 a2 a3
        go_wp2_with fail
        go_roundw
        case rel => exact ⟨k + 1, by omega, by go_num, HA1.out, HB1.out, H01.out, by rw [HE.out]; exact H11.out, HL1.out⟩
        case measure => simp [intOf]; omega
      | true =>
        have hh : hasS s k = true := by rw [hasS_nat]; exact hs
        cases ht : t.getLsbD k with
        | true =>
          have HE := Lib.hid (accS_false p k (by rw [HP.out]; simp [ht]))
          have hh2 : hasS t k = true := by rw [hasS_nat]; exact ht
          clear hs ht
          go_wp2_with fail
          refine (rhas_c s k _).mono ?_
          rintro e w1 ⟨rfl, hbb⟩
          have HA1 := Lib.hid (HA.out.after hbb); have HB1 := Lib.hid (HB.out.after hbb); have H01 := Lib.hid (H0.out.after hbb); have H11 := Lib.hid (H1.out.after hbb)
          have HL1 := Lib.hid (below_then HL.out HL.out.size hbb)
          obtain ⟨b1, b2, b3⟩ := HB1.out.rules
          clear hbb a1 a2 a3
          go_wp2_with fail
          refine (rhas_c t k _).mono ?_
          rintro e w2 ⟨rfl, hbb⟩
          have HA2 := Lib.hid (HA1.out.after hbb); have HB2 := Lib.hid (HB1.out.after hbb); have H02 := Lib.hid (H01.out.after hbb); have H12 := Lib.hid (H11.out.after hbb)
          have HL2 := Lib.hid (below_then HL1.out HL1.out.size hbb)
          clear hbb b1 b2 b3
          go_wp2_with fail
          go_roundw
          case rel => exact ⟨k + 1, by omega, by go_num, HA2.out, HB2.out, H02.out, by rw [HE.out]; exact H12.out, HL2.out⟩
          case measure => simp [intOf]; omega
        | false =>
          have HE := Lib.hid (accS_true p k (by rw [HP.out]; simp [hs, ht]))
          have hh2 : hasS t k = false := by rw [hasS_nat]; exact ht
          clear hs ht
          go_wp2_with fail
          refine (rhas_c s k _).mono ?_
          rintro e w1 ⟨rfl, hbb⟩
          have HA1 := Lib.hid (HA.out.after hbb); have HB1 := Lib.hid (HB.out.after hbb); have H01 := Lib.hid (H0.out.after hbb); have H11 := Lib.hid (H1.out.after hbb)
          have HL1 := Lib.hid (below_then HL.out HL.out.size hbb)
          obtain ⟨b1, b2, b3⟩ := HB1.out.rules
          clear hbb a1 a2 a3
          go_wp2_with fail
          refine (rhas_c t k _).mono ?_
          rintro e w2 ⟨rfl, hbb⟩
          have HA2 := Lib.hid (HA1.out.after hbb); have HB2 := Lib.hid (HB1.out.after hbb); have H02 := Lib.hid (H01.out.after hbb); have H12 := Lib.hid (H11.out.after hbb)
          have HL2 := Lib.hid (below_then HL1.out HL1.out.size hbb)
          obtain ⟨c1, c2, c3⟩ := H12.out.rules
          clear hbb b1 b2 b3
          go_wp2_with fail
          refine (with_c _ _ _).mono ?_
          rintro e w3 ⟨rfl, hbb⟩
          have HA3 := Lib.hid (HA2.out.after hbb); have HB3 := Lib.hid (HB2.out.after hbb); have H03 := Lib.hid (H02.out.after hbb); have H13 := Lib.hid (H12.out.after hbb)
          have HL3 := Lib.hid (below_then HL2.out HL2.out.size hbb)
          clear hbb c1 c2 c3
          obtain ⟨d1, d2, d3⟩ := H13.out.rules
          go_wp2
          go_roundw
          case rel => exact ⟨k + 1, by omega, by go_num, HA3.out.far4 (by omega) _ _ _ _, HB3.out.far4 (by omega) _ _ _ _, H03.out.far4 (by omega) _ _ _ _, by rw [HE.out]; exact H13.out.four _ _ _ _, below_four HL3.out (by omega) _ _ _ _⟩
          case measure => simp [intOf]; omega
    · obtain rfl : k = 256 := by omega
      clear hA hB
      rw [HEND.out] at q1 H1
      go_wp2
      exact post_cell rfl rfl (H0.out.four _ _ _ _) Tryd.underlying24 rfl (by kernel_rfl) rfl ⟨rfl, below_four HL.out (by omega) _ _ _ _⟩
end Go.Proofs.YtkgphbjneaagoaaDoor

/- Appending a whole slice of numbers; the reference's Or. -/
set_option linter.unusedVariables false
namespace Go.Proofs.YtkgphbjneaagoaaDoor
open Go.RowKit

/-- append(v, ys...) onto a row of the call's own, ys read from wherever it lies, nil let in. -/
theorem run_append_ints (w : World) (base : Nat) (ty : TypeId) (v : Value) (xs ys : List Int) (A : Option Addr) (m c : Nat) (HO : w.ownsRow base 3 1 v xs.length (nums xs)) (HR : ReadsI w A m ys)
    (hbase : base ≤ w.heap.size) (hl : xs.length + m ≤ 17592186044416) :
    ∃ v1 w1, (Builtin.append_ #[103, 103] ty #[v, .slice A m c]).run Tryd.prog w = .ok v1 w1 ∧ w1.ownsRow base 3 1 v1 (xs ++ ys).length (nums (xs ++ ys)) ∧ w.grownBy w1 v.ownBlock := by
  obtain ⟨i0, hi, hzz⟩ := Option.map_eq_some_iff.1 info_int
  simp only [Prod.mk.injEq] at hzz
  obtain ⟨hz0, hz1, hz2⟩ := hzz
  rcases Nat.eq_zero_or_pos m with h0 | h0
  · subst h0
    obtain rfl : ys = [] := List.eq_nil_of_length_eq_zero HR.1
    cases A with
    | none =>
      refine ⟨v, w, ?_, by simpa using HO, World.grownBy.refl w _⟩
      rcases HO.2 with ⟨rfl, hl⟩ | ⟨g, cap, cur, rfl, _, _, hnc, _⟩
      · simp [Builtin.append_, run_underlying Tryd.underlying103, sizeOf, typeInfo, hi, Builtin.lenOf, Builtin.firstCells]
      · simp [Builtin.append_, run_underlying Tryd.underlying103, sizeOf, typeInfo, hi, Builtin.lenOf, Builtin.firstCells, hnc, storeCells]
    | some ad =>
      obtain ⟨v1, w1, hrun, h2, h3, _, h5⟩ := run_append_own_at (P := Tryd.prog) w base 103 ty 3 i0 (.int .i64 0) 1 8 Tryd.underlying103 hi hz0 hz1 hz2 rfl (by omega) v xs.length (nums xs) HO ad 0 c [] rfl (fun j u hu => by simp at hu) (by simp) (by simp only [maxLen]; omega) (by omega) hbase
      exact ⟨v1, w1, hrun, by simpa using h2, h3⟩
  · obtain ⟨ad, rfl, hc⟩ := HR.2.2 h0
    obtain ⟨v1, w1, hrun, h2, h3, _, h5⟩ := run_append_own_at (P := Tryd.prog) w base 103 ty 3 i0 (.int .i64 0) 1 8 Tryd.underlying103 hi hz0 hz1 hz2 rfl (by omega) v xs.length (nums xs) HO ad m c (nums ys) (by simp [nums, HR.1])
      (fun j u hu => by
        have hj : j < m := by
          have := (List.getElem?_eq_some_iff.1 hu).1
          rw [nums_length, HR.1] at this; exact this
        rw [hc j hj]
        have hjy : j < ys.length := by rw [HR.1]; exact hj
        have : (nums ys)[j]? = some (.int .i64 (ys.getD j 0)) := by simp [nums, List.getD_eq_getElem?_getD, List.getElem?_eq_getElem hjy]
        rw [← hu, this])
      (by intro u hu; simp only [nums, List.mem_map] at hu; obtain ⟨x, _, rfl⟩ := hu; rfl) (by simp only [maxLen]; omega) (by omega) hbase
    refine ⟨v1, w1, hrun, ?_, h3⟩
    rw [nums_append, List.length_append, HR.1]
    exact h2
/-- At the operation, in a region that draws its order. -/
theorem step_append_ints {ops : Array Oper} {o : Oper} {a : Act} {K : Act → World → Prop} {Q : Exit → Act → World → Prop} {E : Prop} {w : World} (base : Nat) (hgd : o.guard = none) (s x : Operand)
    (ho : o.op = .call { callee := .builtin .append, args := #[s, x], argTypes := #[103, 103] })
    (v : Value) (xs ys : List Int) (A : Option Addr) (m c : Nat) (hs : a.eval s = v) (hx : a.eval x = .slice A m c)
    (HO : w.ownsRow base 3 1 v xs.length (nums xs)) (HR : ReadsI w A m ys) (hbase : base ≤ w.heap.size) (hl : xs.length + m ≤ 17592186044416)
    (h : ∀ v1 w1, w1.ownsRow base 3 1 v1 (xs ++ ys).length (nums (xs ++ ys)) → w.grownBy w1 v.ownBlock → (∀ k, v.ownBlock = some k → base ≤ k) → K (a.put o.dst v1) w1) :
    if Region.wanted o (yielded ops a.tmps) = true then Oper.wp Tryd.prog o a w K Q else E := by
  rw [if_pos (by simp [Region.wanted, hgd])]
  obtain ⟨v1, w1, hrun, h2, h3⟩ := run_append_ints w base o.type v xs ys A m c HO HR hbase hl
  unfold Oper.wp execOp
  simp only [ho, resolve, invoke, builtin, Sem.run_bind, Sem.run_pure, Result.andThen_ok, List.map_toArray, List.map_cons, List.map_nil, hs, hx, hrun]
  exact h v1 w1 h2 h3 (own_base HO)

set_option maxHeartbeats 2000000 in
theorem ror_c (s t : NS) (w : World) :
    Calls Tryd.prog 41 #[nsV s, nsV t] w fun e w' => e = .returned (nsV (s ||| t)) ∧ Below w.heap.size w w' := by
  go_enter Tryd.func41, Tryd.ntmps41
  go_wp2_with fail
  go_region_law (first
    | (refine step_append_ints _ rfl (.tmp 6) (.tmp 8) rfl _ (lst s) (lst t) _ _ _ rfl rfl HO3.out HR2.out HS3.out HN.out ?_; intro v3 w3 hown4 hg3 hbb3; obtain ⟨A3, c3, rfl, hR3, _⟩ := own_reads hown4; rw [List.length_append] at hR3; have HR3 := Lib.hid hR3; have HG := Lib.hid hg3; have HBB := Lib.hid hbb3; clear hR3 hown4 hg3 hbb3)
    | (go_simp; (with_reducible refine (rlist_c s _).mono ?_); rintro e w1 ⟨v1, rfl, hown1, hb1⟩; obtain ⟨A1, c1, rfl, hR1, _⟩ := own_reads hown1; have HO1 := Lib.hid hown1; obtain ⟨hc1, hf1⟩ := bcell hb1; have HB1 := Lib.hid hb1; clear hown1 hb1 hR1)
    | (go_simp; (with_reducible refine (rlist_c t _).mono ?_); rintro e w2 ⟨v2, rfl, hown2, hb2⟩; obtain ⟨A2, c2, rfl, hR2, _⟩ := own_reads hown2; have HO3 := Lib.hid (own_after HO1.out hb2); have HR2 := Lib.hid hR2; have HB2 := Lib.hid hb2; have HS3 := Lib.hid (Nat.le_trans HB1.out.size hb2.size); have HN : Hid ((lst s).length + (lst t).length ≤ 17592186044416) := Lib.hid (by rw [lst_length, lst_length]; have := cnt_le s; have := cnt_le t; omega); clear hown2 hb2 hR2)
    | (go_simp; (with_reducible refine (rof_c _ _ _ _ _ HR3.out).mono ?_); rintro e w4 ⟨rfl, hb4⟩
       have z2 := ((Blk.new' (w := (w.alloc (.cells (nsA s) 24)).alloc (.cells (nsA t) 24)) (g := w.heap.size + 2) (t := 24) (cs := #[.int .u64 0, .int .u64 0, .int .u64 0, .int .u64 0]) (by simp)).drew.after HB1.out).after HB2.out
       have z3 := (z2.own HG.out (fun k hk => by have := HBB.out k hk; simp at this; omega)).after hb4
       have l2 := below_then (below_then ((((Below.refl w.heap.size w).alloc (by simp) (.cells (nsA s) 24)).alloc (by simp) (.cells (nsA t) 24)).alloc (by simp; omega) (.cells #[.int .u64 0, .int .u64 0, .int .u64 0, .int .u64 0] 24)).drew (by simp; omega) HB1.out) (by have := HB1.out.size; simp at this; omega) HB2.out
       have l3 := below_own l2 HG.out l2.size HBB.out (by simp; omega)
       have HL := Lib.hid (below_then l3 l3.size hb4)
       have HZ := Lib.hid z3
       obtain ⟨r1, r2, r3⟩ := z3.rules
       clear z2 z3 l2 l3 hb4))
  all_goals
    go_wp2
    exact post_cell rfl rfl (HZ.out.four _ _ _ _) Tryd.underlying24 rfl (by kernel_rfl) rfl ⟨by rw [ofL_append, ofL_lst, ofL_lst], below_four HL.out (by omega) _ _ _ _⟩

/-! ### First, Nth, Move of the reference -/
theorem slice_cut (A : Option Addr) (n c : Nat) (xs : List Int) (w : World) (k : Nat) (hR : ReadsI w A n xs) (hk : k ≤ n) : ReadsI w A k (xs.take k) :=
  ⟨by rw [List.length_take, hR.1]; omega, by have := hR.2.1; omega, fun h => by
    obtain ⟨ad, e, hc⟩ := hR.2.2 (by omega)
    refine ⟨ad, e, fun j hj => ?_⟩
    rw [hc j (by omega)]
    congr 2
    simp [List.getD_eq_getElem?_getD, hj]⟩
theorem rfirst_in (s : NS) (k : Int) (w : World) (h : 0 ≤ k) (h2 : k ≤ cnt s) :
    Calls Tryd.prog 62 #[nsV s, .int .i64 k] w fun e w' => e = .returned (.tuple #[nsV (ofL ((lst s).take k.toNat)), .bool true]) ∧ Below w.heap.size w w' := by
  go_enter Tryd.func62, Tryd.ntmps62
  go_wp2_with fail
  refine (rlist_c s _).mono ?_
  rintro e w1 ⟨v, rfl, hown, hb⟩
  obtain ⟨A, c, hv, hR, hcap⟩ := own_reads hown
  rw [hv, lst_length]
  rw [lst_length] at hR hcap
  have HL := Lib.hid (below_then (((Below.refl w.heap.size w).alloc (by simp) _).alloc (by simp) _) (by simp; omega) hb)
  have HZ := Lib.hid ((Blk.new' (w := w.alloc (.cells (nsA s) 24)) (g := w.heap.size + 1) (t := 24) (cs := #[.int .u64 0, .int .u64 0, .int .u64 0, .int .u64 0]) (by simp)).after hb)
  have HR := Lib.hid (slice_cut A (cnt s) c (lst s) w1 k.toNat hR (by omega))
  have hkc : k ≤ c := by omega
  clear hv hR hown hb hcap
  go_wp2_with fail
  refine (rof_c _ _ _ _ _ HR.out).mono ?_
  rintro e w2 ⟨rfl, hb2⟩
  have HZ2 := Lib.hid (HZ.out.after hb2)
  have HL2 := Lib.hid (below_then HL.out HL.out.size hb2)
  obtain ⟨r1, r2, r3⟩ := HZ2.out.rules
  clear hb2
  go_wp2_with fail
  exact post_cell_tmp rfl rfl rfl (HZ2.out.four _ _ _ _) Tryd.underlying24 rfl (by kernel_rfl) rfl ⟨rfl, below_four HL2.out (by omega) _ _ _ _⟩
theorem rfirst_out (s : NS) (k : Int) (w : World) (h : k < 0 ∨ (cnt s : Int) < k) :
    Calls Tryd.prog 62 #[nsV s, .int .i64 k] w fun e w' => e = .returned (.tuple #[nsV emptyS, .bool false]) ∧ Below w.heap.size w w' := by
  rw [empty_val]
  rcases h with h | h
  all_goals
    go_enter Tryd.func62, Tryd.ntmps62
    go_wp2_with fail
    refine (rlist_c s _).mono ?_
    rintro e w1 ⟨v, rfl, hown, hb⟩
    obtain ⟨A, c, hv, hR, _⟩ := own_reads hown
    rw [hv, lst_length]
    have HL := Lib.hid (below_then (((Below.refl w.heap.size w).alloc (by simp) _).alloc (by simp) _) (by simp; omega) hb)
    have HZ := Lib.hid ((Blk.new' (w := w.alloc (.cells (nsA s) 24)) (g := w.heap.size + 1) (t := 24) (cs := #[.int .u64 0, .int .u64 0, .int .u64 0, .int .u64 0]) (by simp)).after hb)
    obtain ⟨r1, r2, r3⟩ := HZ.out.rules
    clear hv hR hown hb
    go_wp2_with fail
    exact post_cell_tmp rfl rfl rfl (HZ.out.four _ _ _ _) Tryd.underlying24 rfl (by kernel_rfl) rfl ⟨rfl, below_four HL.out (by omega) _ _ _ _⟩

/-- What First is, of any set. -/
def firstS (s : NS) (k : Int) : NS := if 0 ≤ k ∧ k ≤ cnt s then ofL ((lst s).take k.toNat) else emptyS
def firstOk (s : NS) (k : Int) : Bool := decide (0 ≤ k) && decide (k ≤ cnt s)
def nthV (s : NS) (k : Int) : Int := if 0 ≤ k ∧ k < cnt s then (lst s).getD k.toNat 0 else 0
def nthOk (s : NS) (k : Int) : Bool := decide (0 ≤ k) && decide (k < cnt s)
theorem rfirst_c (s : NS) (k : Int) (w : World) :
    Calls Tryd.prog 62 #[nsV s, .int .i64 k] w fun e w' => e = .returned (.tuple #[nsV (firstS s k), .bool (firstOk s k)]) ∧ Below w.heap.size w w' := by
  unfold firstS firstOk
  by_cases h : 0 ≤ k ∧ k ≤ cnt s
  · rw [if_pos h, decide_eq_true h.1, decide_eq_true h.2]; exact rfirst_in s k w h.1 h.2
  · rw [if_neg h]
    have hf : (decide (0 ≤ k) && decide (k ≤ (cnt s : Int))) = false := by simp; omega
    rw [hf]
    exact rfirst_out s k w (by omega)
end Go.Proofs.YtkgphbjneaagoaaDoor

/- The reference's Move; the sets' List. -/
set_option linter.unusedVariables false
namespace Go.Proofs.YtkgphbjneaagoaaDoor
open Go.RowKit

theorem move_ofL (s : NS) (b : Int) : ofL ((lst s).map (· + b)) = moveS s b := ns_ext fun i hi => by
  rw [ofL_bit, moveS_bit, decide_eq_true hi, Bool.true_and, Bool.true_and]
  rw [Bool.eq_iff_iff, decide_eq_true_eq, List.mem_map]
  constructor
  · rintro ⟨x, hx, e⟩
    rw [mem_lst] at hx
    rw [show (i : Int) - b = x by omega]; exact hx
  · intro h
    exact ⟨(i : Int) - b, mem_lst.2 h, by omega⟩
/-! ### List -/
theorem clear_u64 (w : Nat) (h0 : w ≠ 0) (h : w ≤ 18446744073709551615) : bits .and .u64 (w : Int) ((w : Int) - 1) = ((w &&& (w - 1) : Nat) : Int) := by
  rw [show (w : Int) - 1 = ((w - 1 : Nat) : Int) by omega]
  exact and_u64 _ _ h (by omega)
theorem or_i64_add (k t : Nat) (hk : k < 4) (ht : t < 64) : bits .or .i64 ((k : Int) * 64) (t : Int) = ((64 * k + t : Nat) : Int) := by
  have key : ∀ k, k < 4 → ∀ t, t < 64 → (64 * k) ||| t = 64 * k + t := by decide +kernel
  show IntKind.i64.wrap ((BitVec.ofInt 64 ((k : Int) * 64) ||| BitVec.ofInt 64 (t : Int)).toNat : Int) = _
  rw [show (k : Int) * 64 = ((64 * k : Nat) : Int) by omega, BitVec.toNat_or, BitVec.ofInt_natCast, BitVec.ofInt_natCast, BitVec.toNat_ofNat, BitVec.toNat_ofNat, Nat.mod_eq_of_lt (show 64 * k < 2 ^ 64 by omega), Nat.mod_eq_of_lt (show t < 2 ^ 64 by omega), key k hk t ht, IntKind.wrap_i64]
  omega
def ints (l : List Nat) : List Int := l.map Int.ofNat
theorem ints_snoc (l : List Nat) (x : Nat) : ints (l ++ [x]) = ints l ++ [(x : Int)] := by simp [ints]
theorem ints_len_eq (l : List Nat) : (ints l).length = l.length := by simp [ints]
theorem lst_ints (s : NS) : lst s = ints (lstTo s 4) := by rw [lstTo_four]; rfl
/-- The list in the inner loop. -/
def lstIn (s : NS) (k j : Nat) : List Nat := lstTo s k ++ ((wl (wn s k)).take j).map (64 * k + ·)
theorem lstIn_zero (s : NS) (k : Nat) : lstIn s k 0 = lstTo s k := by simp [lstIn]
theorem lstIn_all (s : NS) (k j : Nat) (h : (wl (wn s k)).length ≤ j) : lstIn s k j = lstTo s (k + 1) := by simp [lstIn, lstTo, List.take_of_length_le h]
theorem strike_zero_iff (j : Nat) {w : Nat} (h : w < 2 ^ 64) : strike j w = 0 ↔ (wl w).length ≤ j := by
  have hs := wl_strike j h
  constructor
  · intro e
    rw [e, wl_zero] at hs
    have := congrArg List.length hs
    simp at this; omega
  · intro e
    exact wl_nil (strike_lt j h) (by rw [hs]; exact List.drop_eq_nil_of_le e)
theorem ctz_strike (j : Nat) {w : Nat} (h : w < 2 ^ 64) (h0 : strike j w ≠ 0) : ∃ hj : j < (wl w).length, (wl w)[j] = Lib.ctz 64 (strike j w) := by
  have hj : j < (wl w).length := by
    rcases Nat.lt_or_ge j (wl w).length with h2 | h2
    · exact h2
    · exact absurd ((strike_zero_iff j h).2 h2) h0
  refine ⟨hj, ?_⟩
  have hs := wl_strike j h
  rw [wl_cons h0 (strike_lt j h), List.drop_eq_getElem_cons hj] at hs
  injection hs with h1 _
  exact h1.symm
theorem lstIn_succ (s : NS) (k j : Nat) (h0 : strike j (wn s k) ≠ 0) : lstIn s k (j + 1) = lstIn s k j ++ [64 * k + Lib.ctz 64 (strike j (wn s k))] := by
  obtain ⟨hj, e⟩ := ctz_strike j (wn_lt s k) h0
  unfold lstIn
  rw [List.take_succ_eq_append_getElem hj, e, List.map_append, List.append_assoc]
  rfl
theorem lstIn_len (s : NS) (k j : Nat) : (lstIn s k j).length ≤ 64 * k + 64 := by
  have h1 := lstTo_length s k
  have h2 := wl_length (wn s k)
  simp [lstIn]
  omega

end Go.Proofs.YtkgphbjneaagoaaDoor

/- The sets' Nth and First. -/
set_option linter.unusedVariables false
namespace Go.Proofs.YtkgphbjneaagoaaDoor
open Go.RowKit

theorem nth_word (s : NS) (q : Nat) (hq : q < 4) (k : Int) (h0 : (cntTo s q : Int) ≤ k) (h1 : k < cntTo s (q + 1)) (y : Nat) (hy : y = strike (k - cntTo s q).toNat (wn s q)) :
    k < cnt s ∧ y ≠ 0 ∧ ((64 * q + Lib.ctz 64 y : Nat) : Int) = (lst s).getD k.toNat 0 := by
  rw [cntTo_succ] at h1
  have hj : (k - cntTo s q).toNat < (wl (wn s q)).length := by omega
  have h2 : y ≠ 0 := by
    rw [hy]; intro e
    have := (strike_zero_iff _ (wn_lt s q)).1 e
    omega
  obtain ⟨hj2, e⟩ := ctz_strike _ (wn_lt s q) (by rw [← hy]; exact h2)
  rw [← hy] at e
  have hp := lstTo_prefix s (q + 1) (by omega)
  have hk : k.toNat < (lstTo s (q + 1)).length := by
    show k.toNat < cntTo s (q + 1)
    rw [cntTo_succ]; omega
  have hle := hp.length_le
  have hcl : (lstTo s q).length = cntTo s q := rfl
  have hlst : (lstN s)[k.toNat]? = some (64 * q + Lib.ctz 64 y) := by
    obtain ⟨r, hr⟩ := hp
    rw [← hr, List.getElem?_append_left hk]
    show (lstTo s q ++ (wl (wn s q)).map (64 * q + ·))[k.toNat]? = _
    rw [List.getElem?_append_right (by omega), List.getElem?_map, show k.toNat - (lstTo s q).length = (k - cntTo s q).toNat by omega, List.getElem?_eq_getElem hj2, e]
    rfl
  refine ⟨?_, h2, ?_⟩
  · have : (lstTo s (q + 1)).length ≤ cnt s := hle
    omega
  · simp [lst, List.getD_eq_getElem?_getD, hlst]

set_option maxHeartbeats 4000000 in
theorem nth_in (s : NS) (n : Int) (w : World) (hT : TabW w) (n0 : 0 ≤ n) (n1 : n ≤ 9223372036854775807) :
    Calls Tryd.prog 70 #[nsV s, .int .i64 n] w fun e w' => e = .returned (.tuple #[.int .i64 (nthV s n), .bool (nthOk s n)]) ∧ Below w.heap.size w w' := by
  have HT := Lib.hid hT
  have hlt0 := hT.lt
  clear hT
  go_enter Tryd.func70, Tryd.ntmps70
  go_wp2_with fail
  go_loop [1, 12] (fun x i => ∃ q : Nat, q ≤ 4 ∧ i = .int .i64 q ∧ (cntTo s q : Int) ≤ n ∧ x = .int .i64 (n - cntTo s q)) (fun _ i => 4 - (intOf i).toNat)
  case atStart => exact ⟨0, by omega, rfl, by simp [cntTo, lstTo]; omega, by simp [cntTo, lstTo]⟩
  case round =>
    obtain ⟨q, hq, rfl, hle, rfl⟩ := hrel
    have hcb := cntTo_le s q
    by_cases hlt : q < 4
    · have ix := ns_index s q hlt
      have hwl := wl_length (wn s q)
      obtain ⟨m, hm⟩ : ∃ m : Nat, (m : Int) = n - cntTo s q := ⟨(n - cntTo s q).toNat, by omega⟩
      have HM := Lib.hid hm
      have hmb : m ≤ 9223372036854775807 := by omega
      rw [← hm]
      clear hm
      by_cases hc : (wl (wn s q)).length ≤ m
      · have HC := Lib.hid (cntTo_succ s q)
        go_wp2_with (refine (pc_c (wn s q) (wn_le s q) _).mono ?_; rintro e w' ⟨rfl, rfl⟩)
        go_round
        case rel =>
          have e1 := HM.out
          exact ⟨q + 1, by omega, by go_num, by rw [HC.out]; omega, by rw [HC.out]; congr 1; omega⟩
        case measure => simp [intOf]; omega
      · go_wp2_with (refine (pc_c (wn s q) (wn_le s q) _).mono ?_; rintro e w' ⟨rfl, rfl⟩)
        obtain ⟨hN1, hy0, hres⟩ := nth_word s q hlt n hle (by rw [cntTo_succ]; have := HM.out; omega) _ rfl
        have em : (n - (cntTo s q : Int)).toNat = m := by have := HM.out; omega
        rw [em] at hy0 hres
        have HRES := Lib.hid hres; have HY0 := Lib.hid hy0; have HN1 := Lib.hid hN1
        have HW64 := Lib.hid (wn_lt s q)
        clear hres hy0 hN1 em
        go_loop [1, 7] (fun x y => ∃ j : Nat, j ≤ m ∧ x = .int .i64 ((m - j : Nat) : Int) ∧ y = .int .u64 (strike j (wn s q) : Nat)) (fun x _ => (intOf x).toNat)
        case atStart => exact ⟨0, by omega, rfl, rfl⟩
        case round =>
          obtain ⟨j, hj, rfl, rfl⟩ := hrel
          obtain ⟨y, hy⟩ : ∃ y, y = strike j (wn s q) := ⟨_, rfl⟩
          have hst := strike_lt j HW64.out
          rw [← hy] at hst
          rw [← hy]
          have hyle : y ≤ 18446744073709551615 := by omega
          by_cases hjm : j < m
          · have hys : y ≠ 0 := by
              rw [hy]; intro e
              have h1 := (strike_zero_iff j HW64.out).1 e
              omega
            have c1 := clear_u64 y hys hyle
            have HS := Lib.hid (strike_succ j (wn s q))
            rw [← hy] at HS
            obtain ⟨d, hd⟩ : ∃ d, m - j = d + 1 := ⟨m - j - 1, by omega⟩
            have HD := Lib.hid hd
            rw [hd]
            clear hd hy hst
            have hdb : d ≤ 9223372036854775806 := by have := HD.out; omega
            go_wp2_with fail
            go_round
            case rel => exact ⟨j + 1, by omega, by rw [show m - (j + 1) = d by have := HD.out; omega], by rw [HS.out]⟩
            case measure => simp [intOf]
          · obtain rfl : j = m := by omega
            have e0 : j - j = 0 := Nat.sub_self j
            rw [e0]
            rw [← hy] at HRES HY0
            have htz := (low_bit HY0.out hst).choose_spec.2
            have c2 := or_i64_add q (Lib.ctz 64 y) hlt htz
            obtain ⟨z, hz⟩ : ∃ z, z = Lib.ctz 64 y := ⟨_, rfl⟩
            clear e0 hy
            go_wp2_with fail
            refine (tz_c y hyle HY0.out _ (HT.out.alloc _)).mono ?_
            rintro e w1 ⟨rfl, rfl⟩
            rw [← hz] at htz c2 HRES ⊢
            clear hz
            go_wp2_with fail
            go_ret2
            exact ⟨by unfold nthV nthOk; rw [if_pos ⟨n0, HN1.out⟩, decide_eq_true n0, decide_eq_true HN1.out, ← HRES.out]; rfl, (Below.refl _ _).alloc (Nat.le_refl _) _⟩
    · obtain rfl : q = 4 := by omega
      rw [cntTo_four] at hle
      have h1 : ¬ (0 ≤ n ∧ n < (cnt s : Int)) := by omega
      have h2 : decide (n < (cnt s : Int)) = false := decide_eq_false (by omega)
      have H1 := Lib.hid h1; have H2 := Lib.hid h2
      clear h1 h2
      go_wp2_with fail
      go_ret2
      exact ⟨by unfold nthV nthOk; rw [if_neg H1.out, H2.out, Bool.and_false]; rfl, (Below.refl _ _).alloc (Nat.le_refl _) _⟩
theorem nth_neg (s : NS) (n : Int) (w : World) (h : n < 0) :
    Calls Tryd.prog 70 #[nsV s, .int .i64 n] w fun e w' => e = .returned (.tuple #[.int .i64 (nthV s n), .bool (nthOk s n)]) ∧ Below w.heap.size w w' := by
  have h1 : ¬ (0 ≤ n ∧ n < (cnt s : Int)) := by omega
  have h2 : decide (0 ≤ n) = false := decide_eq_false (by omega)
  have H1 := Lib.hid h1; have H2 := Lib.hid h2
  clear h1 h2
  go_enter Tryd.func70, Tryd.ntmps70
  go_wp2_with fail
  go_ret2
  exact ⟨by unfold nthV nthOk; rw [if_neg H1.out, H2.out, Bool.false_and]; rfl, (Below.refl _ _).alloc (Nat.le_refl _) _⟩
theorem nth_c (s : NS) (n : Int) (w : World) (hT : TabW w) (n1 : n ≤ 9223372036854775807) :
    Calls Tryd.prog 70 #[nsV s, .int .i64 n] w fun e w' => e = .returned (.tuple #[.int .i64 (nthV s n), .bool (nthOk s n)]) ∧ Below w.heap.size w w' := by
  by_cases h : n < 0
  · exact nth_neg s n w h
  · exact nth_in s n w hT (by omega) n1

/-! ### First -/
theorem first_below (s : NS) (n : Nat) (h : n < cnt s) : s &&& belowS ((lst s).getD n 0) = ofL ((lst s).take n) := ns_ext fun i hi => by
  have hl : n < (lst s).length := by rw [lst_length]; exact h
  have hs := lst_sorted s
  have hget : (lst s).getD n 0 = (lst s)[n] := by simp [List.getD_eq_getElem?_getD, List.getElem?_eq_getElem hl]
  rw [BitVec.getLsbD_and, belowS_bit, ofL_bit, decide_eq_true hi, Bool.true_and, Bool.true_and, hget]
  rw [Bool.eq_iff_iff, Bool.and_eq_true, decide_eq_true_eq, decide_eq_true_eq]
  have hmem : s.getLsbD i = true ↔ (i : Int) ∈ lst s := by rw [mem_lst, hasS_nat]
  rw [hmem]
  have hpw := List.pairwise_iff_getElem.1 hs
  constructor
  · rintro ⟨h1, h2⟩
    obtain ⟨j, hj, e⟩ := List.mem_iff_getElem.1 h1
    have hjn : j < n := by
      rcases Nat.lt_trichotomy j n with h3 | h3 | h3
      · exact h3
      · subst h3; omega
      · have := hpw n j hl hj h3; omega
    rw [List.mem_iff_getElem]
    exact ⟨j, by rw [List.length_take]; omega, by rw [List.getElem_take]; exact e⟩
  · intro h1
    obtain ⟨j, hj, e⟩ := List.mem_iff_getElem.1 h1
    rw [List.length_take] at hj
    rw [List.getElem_take] at e
    refine ⟨by rw [← e]; exact List.getElem_mem _, ?_⟩
    have := hpw j n (by omega) hl (by omega)
    omega
theorem first_all (s : NS) : ofL ((lst s).take (cnt s)) = s := by rw [← lst_length, List.take_length, ofL_lst]

theorem first_out (s : NS) (n : Int) (w : World) (h : n < 0 ∨ (cnt s : Int) < n) :
    Calls Tryd.prog 60 #[nsV s, .int .i64 n] w fun e w' => e = .returned (.tuple #[nsV emptyS, .bool false]) ∧ Below w.heap.size w w' := by
  rw [empty_val]
  rcases h with h | h
  · go_enter Tryd.func60, Tryd.ntmps60
    go_wp2_with fail
    exact post_cell_tmp rfl rfl rfl (Blk.new' (by simp)) Tryd.underlying24 rfl (by kernel_rfl) rfl ⟨rfl, ((Below.refl _ _).alloc (by simp) _).alloc (by simp) _⟩
  · have h0 : decide (n < 0) = false := decide_eq_false (by omega)
    go_enter Tryd.func60, Tryd.ntmps60
    go_wp2_with fail
    refine (count_c s _).mono ?_
    rintro e w1 ⟨rfl, hb⟩
    have HL := Lib.hid (below_then (((Below.refl w.heap.size w).alloc (by simp) _).alloc (by simp) _) (by simp; omega) hb)
    have HZ := Lib.hid ((Blk.new' (w := w.alloc (.cells (nsA s) 24)) (g := w.heap.size + 1) (t := 24) (cs := #[.int .u64 0, .int .u64 0, .int .u64 0, .int .u64 0]) (by simp)).after hb)
    obtain ⟨r1, r2, r3⟩ := HZ.out.rules
    clear hb
    go_wp2_with fail
    exact post_cell_tmp rfl rfl rfl (HZ.out.four _ _ _ _) Tryd.underlying24 rfl (by kernel_rfl) rfl ⟨rfl, below_four HL.out (by omega) _ _ _ _⟩
theorem first_full (s : NS) (w : World) (hT : TabW w) :
    Calls Tryd.prog 60 #[nsV s, .int .i64 (cnt s : Nat)] w fun e w' => e = .returned (.tuple #[nsV s, .bool true]) ∧ Below w.heap.size w w' := by
  have hn := nth_c s (cnt s)
  have hf : nthOk s (cnt s) = false := by simp [nthOk]
  rw [hf] at hn
  have HN := Lib.hid hn
  have HT := Lib.hid hT
  have hc := cnt_le s
  clear hn hf hT
  go_enter Tryd.func60, Tryd.ntmps60
  go_wp2_with fail
  refine (count_c s _).mono ?_
  rintro e w1 ⟨rfl, hb⟩
  have HL := Lib.hid (below_then (((Below.refl w.heap.size w).alloc (by simp) _).alloc (by simp) _) (by simp; omega) hb)
  have HZ := Lib.hid ((Blk.new' (w := w.alloc (.cells (nsA s) 24)) (g := w.heap.size + 1) (t := 24) (cs := #[.int .u64 0, .int .u64 0, .int .u64 0, .int .u64 0]) (by simp)).after hb)
  have HS := Lib.hid (((Blk.new' (w := w) (g := w.heap.size) (t := 24) (cs := nsA s) rfl).alloc (.cells #[.int .u64 0, .int .u64 0, .int .u64 0, .int .u64 0] 24)).after hb)
  have HT1 := Lib.hid (((HT.out.alloc _).alloc _).after hb)
  obtain ⟨r1, r2, r3⟩ := HS.out.rules
  clear hb
  go_wp2_with fail
  refine (HN.out _ HT1.out (by omega)).mono ?_
  rintro e w2 ⟨rfl, hb⟩
  have HL2 := Lib.hid (below_then HL.out HL.out.size hb)
  have HZ2 := Lib.hid (HZ.out.after hb)
  have HS2 := Lib.hid (HS.out.after hb)
  clear hb r1 r2 r3
  obtain ⟨r1, r2, r3⟩ := HS2.out.rules
  obtain ⟨q1, q2, q3⟩ := HZ2.out.rules
  go_wp2_with fail
  exact post_cell_tmp rfl rfl rfl (HZ2.out.four _ _ _ _) Tryd.underlying24 rfl (by kernel_rfl) rfl ⟨rfl, below_four HL2.out (by omega) _ _ _ _⟩
set_option maxHeartbeats 1000000 in
theorem first_in (s : NS) (n : Int) (w : World) (hT : TabW w) (n0 : 0 ≤ n) (n1 : n < cnt s) :
    Calls Tryd.prog 60 #[nsV s, .int .i64 n] w fun e w' => e = .returned (.tuple #[nsV (s &&& belowS ((lst s).getD n.toNat 0)), .bool true]) ∧ Below w.heap.size w w' := by
  have hn := nth_c s n
  have hc := cnt_le s
  have hf : nthOk s n = true := by simp [nthOk, n0, n1]
  have hf2 : nthV s n = (lst s).getD n.toNat 0 := by rw [nthV, if_pos ⟨n0, n1⟩]
  rw [hf, hf2] at hn
  obtain ⟨x, hx⟩ : ∃ x, x = (lst s).getD n.toNat 0 := ⟨_, rfl⟩
  have hxr : 0 ≤ x ∧ x ≤ 255 := lst_range (s := s) (by
    have hl : n.toNat < (lst s).length := by rw [lst_length]; omega
    rw [hx, List.getD_eq_getElem?_getD, List.getElem?_eq_getElem hl]; exact List.getElem_mem _)
  rw [← hx] at hn ⊢
  have HN := Lib.hid hn
  have HT := Lib.hid hT
  clear hn hf hf2 hT hx
  go_enter Tryd.func60, Tryd.ntmps60
  go_wp2_with fail
  refine (count_c s _).mono ?_
  rintro e w1 ⟨rfl, hb⟩
  have HL := Lib.hid (below_then (((Below.refl w.heap.size w).alloc (by simp) _).alloc (by simp) _) (by simp; omega) hb)
  have HZ := Lib.hid ((Blk.new' (w := w.alloc (.cells (nsA s) 24)) (g := w.heap.size + 1) (t := 24) (cs := #[.int .u64 0, .int .u64 0, .int .u64 0, .int .u64 0]) (by simp)).after hb)
  have HS := Lib.hid (((Blk.new' (w := w) (g := w.heap.size) (t := 24) (cs := nsA s) rfl).alloc (.cells #[.int .u64 0, .int .u64 0, .int .u64 0, .int .u64 0] 24)).after hb)
  have HT1 := Lib.hid (((HT.out.alloc _).alloc _).after hb)
  obtain ⟨r1, r2, r3⟩ := HS.out.rules
  clear hb
  go_wp2_with fail
  refine (HN.out _ HT1.out (by omega)).mono ?_
  rintro e w2 ⟨rfl, hb⟩
  have HL2 := Lib.hid (below_then HL.out HL.out.size hb)
  have HZ2 := Lib.hid (HZ.out.after hb)
  have HS2 := Lib.hid (HS.out.after hb)
  clear hb r1 r2 r3
  obtain ⟨r1, r2, r3⟩ := HS2.out.rules
  obtain ⟨x0, x1⟩ := hxr
  go_wp2_with fail
  go_region_law (first
    | (go_simp; (with_reducible refine (below_c x _ (by omega) (by omega)).mono ?_); rintro e w3 ⟨rfl, hb3⟩; obtain ⟨s1, s2, s3⟩ := (HS2.out.drew.after hb3).rules; have HB3 := Lib.hid hb3; clear hb3)
    | (go_simp; (with_reducible refine (and_c _ _ _).mono ?_); rintro e w4 ⟨rfl, hb4⟩
       have z2 := (HZ2.out.drew.after HB3.out).after hb4
       have l2 := below_then (HL2.out.drew) HL2.out.size HB3.out
       have HL4 := Lib.hid (below_then l2 l2.size hb4)
       have HZ4 := Lib.hid z2
       obtain ⟨q1, q2, q3⟩ := z2.rules
       clear z2 l2 hb4))
  all_goals
    go_wp2
    exact post_cell_tmp rfl rfl rfl (HZ4.out.four _ _ _ _) Tryd.underlying24 rfl (by kernel_rfl) rfl ⟨rfl, below_four HL4.out (by omega) _ _ _ _⟩
theorem first_c (s : NS) (n : Int) (w : World) (hT : TabW w) :
    Calls Tryd.prog 60 #[nsV s, .int .i64 n] w fun e w' => e = .returned (.tuple #[nsV (firstS s n), .bool (firstOk s n)]) ∧ Below w.heap.size w w' := by
  unfold firstS firstOk
  by_cases h : 0 ≤ n ∧ n ≤ cnt s
  · rw [if_pos h, decide_eq_true h.1, decide_eq_true h.2]
    by_cases h2 : n = cnt s
    · subst h2
      rw [Int.toNat_natCast, first_all]
      exact first_full s w hT
    · rw [← first_below s n.toNat (by omega)]
      exact first_in s n w hT h.1 (by omega)
  · rw [if_neg h]
    have hf : (decide (0 ≤ n) && decide (n ≤ (cnt s : Int))) = false := by simp; omega
    rw [hf]
    exact first_out s n w (by omega)
end Go.Proofs.YtkgphbjneaagoaaDoor

