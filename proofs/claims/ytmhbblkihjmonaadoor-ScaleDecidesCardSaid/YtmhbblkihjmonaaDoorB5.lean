/- The walk of the sets' Of; slices of numbers. -/
import Derived.Test.YtmhbblkihjmonaaDoorB4
import Derived.Laws.AppendOwn
import Derived.Maps.AppendAt
import Derived.OwnWalk
set_option linter.unusedVariables false
namespace Go.Proofs.YtmhbblkihjmonaaDoor
open Go.RowKit

/-! ### a slice of numbers that is read; one that the call owns -/
def nums (xs : List Int) : List Value := xs.map fun x => .int .i64 x
theorem nums_length (xs : List Int) : (nums xs).length = xs.length := by simp [nums]
theorem nums_append (xs ys : List Int) : nums (xs ++ ys) = nums xs ++ nums ys := by simp [nums]
/-- The slice value '.slice A n c' reads as the list xs. -/
def ReadsI (w : World) (A : Option Addr) (n : Nat) (xs : List Int) : Prop :=
  xs.length = n ∧ n ≤ 9223372036854775807 ∧ (0 < n → ∃ ad, A = some ad ∧ ∀ j, j < n → w.cell? (ad.add j) = some (.int .i64 (xs.getD j 0)))
theorem add_block (a : Addr) (n : Nat) : (a.add n).block = a.block := by unfold Addr.add; split <;> rfl
theorem add_plain (g j : Nat) : (⟨g, 0, none⟩ : Addr).add j = ⟨g, j, none⟩ := by unfold Addr.add; split <;> simp_all
theorem ReadsI.below {w w' : World} {A : Option Addr} {n : Nat} {xs : List Int} (h : ReadsI w A n xs) (hb : Below w.heap.size w w') : ReadsI w' A n xs :=
  ⟨h.1, h.2.1, fun hn => by
    obtain ⟨ad, e, hc⟩ := h.2.2 hn
    exact ⟨ad, e, fun j hj => (hb.cell (block_lt_of_cell (hc j hj))).trans (hc j hj)⟩⟩
theorem ReadsI.nil (w : World) : ReadsI w none 0 [] := ⟨rfl, by omega, fun h => absurd h (by omega)⟩
/-- In a later world: the k-th cell. -/
theorem ReadsI.at_ {w w' : World} {A : Option Addr} {n k : Nat} {xs : List Int} (h : ReadsI w A n xs) (hb : Below w.heap.size w w') (hk : k < n) : ∃ ad, A = some ad ∧ w'.cell? (ad.add k) = some (.int .i64 (xs.getD k 0)) := by
  obtain ⟨ad, e, hc⟩ := h.2.2 (by omega)
  exact ⟨ad, e, (hb.cell (block_lt_of_cell (hc k hk))).trans (hc k hk)⟩
theorem take_snoc (xs : List Int) (k : Nat) (h : k < xs.length) : xs.take (k + 1) = xs.take k ++ [xs.getD k 0] := by
  rw [List.take_succ_eq_append_getElem h]
  simp [List.getD_eq_getElem?_getD, List.getElem?_eq_getElem h]

/-! ### one word of a set written -/
abbrev nsA (s : NS) : Array Value := #[.int .u64 (wn s 0 : Nat), .int .u64 (wn s 1 : Nat), .int .u64 (wn s 2 : Nat), .int .u64 (wn s 3 : Nat)]
theorem nsA_set (s s' : NS) (q : Nat) (hq : q < 4) (h : ∀ k, k < 4 → k ≠ q → wn s k = wn s' k) : (nsA s).setIfInBounds q (.int .u64 (wn s' q : Nat)) = nsA s' := by
  have e : nsA s' = #[.int .u64 (wn s' 0 : Nat), .int .u64 (wn s' 1 : Nat), .int .u64 (wn s' 2 : Nat), .int .u64 (wn s' 3 : Nat)] := rfl
  rcases (show q = 0 ∨ q = 1 ∨ q = 2 ∨ q = 3 by omega) with rfl | rfl | rfl | rfl
  · rw [e, ← h 1 (by decide) (by decide), ← h 2 (by decide) (by decide), ← h 3 (by decide) (by decide)]; rfl
  · rw [e, ← h 0 (by decide) (by decide), ← h 2 (by decide) (by decide), ← h 3 (by decide) (by decide)]; rfl
  · rw [e, ← h 0 (by decide) (by decide), ← h 1 (by decide) (by decide), ← h 3 (by decide) (by decide)]; rfl
  · rw [e, ← h 0 (by decide) (by decide), ← h 1 (by decide) (by decide), ← h 2 (by decide) (by decide)]; rfl
theorem with_word (s : NS) (q r k : Nat) (hq : q < 4) (hr : r < 64) (hk : k < 4) : wn (withS s ((64 * q + r : Nat) : Int)) k = if k = q then wn s q ||| 2 ^ r else wn s k := by
  symm
  refine wn_eq ?_ fun j hj => ?_
  · split
    · exact Nat.or_lt_two_pow (wn_lt s q) (Nat.pow_lt_pow_right (by decide) hr)
    · exact wn_lt s k
  · have h2 : 64 * k + j < 256 := by omega
    rw [withS_bit, decide_eq_true h2, Bool.true_and]
    split
    · rename_i e
      subst e
      rw [Nat.testBit_or, wn_bit, decide_eq_true hj, Bool.true_and, Nat.testBit_two_pow]
      congr 1
      exact decide_eq_decide.2 (by omega)
    · rename_i e
      have : ¬ (((64 * k + j : Nat) : Int) = ((64 * q + r : Nat) : Int)) := by omega
      rw [wn_bit, decide_eq_true hj, Bool.true_and, decide_eq_false this, Bool.or_false]
theorem Blk.word {w : World} {g t q r : Nat} {s : NS} {X : Int} (h : Blk w g t (nsA s)) (hq : q < 4) (hr : r < 64) (hX : X = ((wn s q ||| 2 ^ r : Nat) : Int)) :
    Blk (w.setCell ⟨g, q, none⟩ (.int .u64 X)) g t (nsA (withS s ((64 * q + r : Nat) : Int))) := by
  have e := with_word s q r q hq hr hq
  rw [if_pos rfl] at e
  rw [hX, ← e, ← nsA_set s (withS s ((64 * q + r : Nat) : Int)) q hq (fun k hk hne => by rw [with_word s q r k hq hr hk, if_neg hne])]
  exact h.set_ _ _
theorem shl_one (r : Nat) (hr : r < 64) : IntKind.u64.wrap (2 ^ r) = ((2 ^ r : Nat) : Int) := by
  have h : 2 ^ r < 2 ^ 64 := Nat.pow_lt_pow_right (by decide) hr
  have e : (2 : Int) ^ r = ((2 ^ r : Nat) : Int) := by simp
  rw [e, wrap_u64_nat (by omega)]

set_option maxHeartbeats 2000000 in
theorem of_c (A : Option Addr) (n c : Nat) (xs : List Int) (w : World) (hR : ReadsI w A n xs) (hx : ∀ x ∈ xs, -9223372036854775808 ≤ x ∧ x ≤ 9223372036854775807) :
    Calls Tryd.prog 25 #[.slice A n c] w fun e w' => e = .returned (nsV (ofL xs)) ∧ Below w.heap.size w w' := by
  have hn := hR.2.1
  have hl := hR.1
  have HL0 := Lib.hid hl
  have HR := Lib.hid hR
  have HX := Lib.hid hx
  clear hR hx hl
  go_enter Tryd.func25, Tryd.ntmps25
  go_wp2_with fail
  go_loopw [8] (fun i wr => ∃ k : Nat, k ≤ n ∧ i = .int .i64 k ∧ Blk wr w.heap.size 24 #[.int .u64 0, .int .u64 0, .int .u64 0, .int .u64 0] ∧ Blk wr (w.heap.size + 1) 24 (nsA (ofL (xs.take k))) ∧ Below w.heap.size w wr) (fun i _ => n - (intOf i).toNat)
  case atStart =>
    refine ⟨0, by omega, rfl, (Blk.new' (by simp)).alloc _, ?_, ((Below.refl _ _).alloc (by simp) _).alloc (by simp) _⟩
    have e : nsA (ofL (xs.take 0)) = #[.int .u64 0, .int .u64 0, .int .u64 0, .int .u64 0] := by simp [nsA, ofL_nil, wn_empty]
    rw [e]
    exact Blk.new' (by simp)
  case round =>
    obtain ⟨k, hk, rfl, hB0, hB1, hbl⟩ := hrel
    have H0 := Lib.hid hB0; have H1 := Lib.hid hB1; have HL := Lib.hid hbl
    obtain ⟨r1, r2, r3⟩ := hB0.rules
    obtain ⟨q1, q2, q3⟩ := hB1.rules
    clear hB0 hB1 hbl
    by_cases hlt : k < n
    · obtain ⟨ad, rfl, hcell⟩ := HR.out.at_ HL.out hlt
      have hts := take_snoc xs k (by rw [HL0.out]; exact hlt)
      have hxr := HX.out (xs.getD k 0) (by rw [List.getD_eq_getElem?_getD, List.getElem?_eq_getElem (by rw [HL0.out]; exact hlt)]; exact List.getElem_mem _)
      obtain ⟨x, hxe⟩ : ∃ x, xs.getD k 0 = x := ⟨_, rfl⟩
      rw [hxe] at hcell hts hxr
      have HT := Lib.hid hts
      obtain ⟨x0, x1⟩ := hxr
      clear hts hxe r1 r2 r3
      by_cases hin : 0 ≤ x ∧ x ≤ 255
      · obtain ⟨i0, i1⟩ := hin
        obtain ⟨q, r, hx, hq, hr⟩ : ∃ q r : Nat, x = ((64 * q + r : Nat) : Int) ∧ q < 4 ∧ r < 64 := ⟨(x / 64).toNat, (x % 64).toNat, by omega, by omega, by omega⟩
        have e1 : x / 64 = (q : Int) := by omega
        have e2 : bits .and .i64 x 63 = (r : Int) := by rw [and63 _ i0 (by omega)]; omega
        have e3 := shl_one r hr
        have HXX := Lib.hid hx
        have l1 : (q : Int) < 4 := by omega
        have l2 : 0 ≤ (q : Int) := by omega
        have l3 : 0 ≤ (r : Int) := by omega
        have g1 := ns_get (ofL (xs.take k)) q hq
        obtain ⟨y, hy⟩ : ∃ y : Nat, y = wn (ofL (xs.take k)) q ||| 2 ^ r := ⟨_, rfl⟩
        have g2 : bits .or .u64 (wn (ofL (xs.take k)) q : Int) (2 ^ r) = (y : Int) := by
          rw [hy, show (2 : Int) ^ r = ((2 ^ r : Nat) : Int) by simp]
          exact or_u64 _ _ (wn_le _ _) (by have : 2 ^ r < 2 ^ 64 := Nat.pow_lt_pow_right (by decide) hr; omega)
        have HY := Lib.hid hy
        have hmin : min r 64 = r := by omega
        have HQ := Lib.hid hq
        have HRR := Lib.hid hr
        clear hy hq hr
        clear hx
        go_wp2_with fail
        refine region_tail 9 (by kernel_rfl) (by kernel_rfl) ?_
        simp only [List.take_succ_cons, List.take_zero, List.drop_succ_cons, List.drop_zero]
        repeat still_step
        refine wpStill_nil ?_
        go_wp2
        go_roundw
        case rel =>
          refine ⟨k + 1, by omega, by go_num, H0.out.drew.far (by dsimp only; omega) _, ?_, HL.out.drew.setCell (by dsimp only; omega) _⟩
          rw [HT.out, ofL_snoc, HXX.out]
          exact H1.out.drew.word HQ.out HRR.out (by rw [← HY.out])
        case measure => simp [intOf]; omega
      · have hout : x < 0 ∨ 255 < x := by omega
        have ho := ofL_out (xs.take k) x hout
        have HO := Lib.hid ho
        clear ho
        have hd : decide (IntKind.u64.wrap x ≤ 255) = false := decide_eq_false (by rw [IntKind.wrap_u64]; omega)
        have hd2 : 255 < IntKind.u64.wrap x := by rw [IntKind.wrap_u64]; omega
        rcases hout with h | h
        all_goals
          go_wp2_with fail
          go_roundw
          case rel => exact ⟨k + 1, by omega, by go_num, H0.out, by rw [HT.out, HO.out]; exact H1.out, HL.out⟩
          case measure => simp [intOf]; omega
    · obtain rfl : k = n := by omega
      have e4 : xs.take k = xs := by rw [← HL0.out]; exact List.take_length
      rw [e4] at q1 H1
      clear e4
      go_wp2
      exact post_cell rfl rfl (H0.out.four _ _ _ _) Tryd.underlying24 rfl (by kernel_rfl) rfl ⟨rfl, below_four HL.out (by omega) _ _ _ _⟩
end Go.Proofs.YtmhbblkihjmonaaDoor
