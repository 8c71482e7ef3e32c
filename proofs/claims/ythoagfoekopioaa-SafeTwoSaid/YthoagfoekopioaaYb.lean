/- Safe: the document's numbers of 160 bits. -/
import Derived.Test.YthoagfoekopioaaY3
import Derived.Test.YthoagfoekopioaaBs
set_option linter.unusedVariables false
namespace Go.Proofs.Ythoagfoekopioaa
open Go.RowKit

abbrev Big := BitVec 160
def bigF (f : Nat → Bool) : Array Value := ((List.range 160).map fun i => Value.bool (f i)).toArray
theorem bigF_size (f : Nat → Bool) : (bigF f).size = 160 := by simp [bigF]
theorem bigF_get (f : Nat → Bool) (i : Nat) (h : i < 160) : (bigF f)[i]? = some (.bool (f i)) := by simp [bigF, h]
theorem bigF_congr {f g : Nat → Bool} (h : ∀ i, i < 160 → f i = g i) : bigF f = bigF g := by
  unfold bigF
  congr 1
  refine List.map_congr_left fun i hi => ?_
  rw [h i (by simpa using hi)]
theorem bigF_one (f : Nat → Bool) : (bigF f).all (·.oneCell') = true := by
  rw [Array.all_eq_true_iff_forall_mem]
  intro v hv
  simp only [bigF, List.mem_toArray, List.mem_map] at hv
  obtain ⟨i, _, rfl⟩ := hv
  rfl
theorem bigF_spl (f : Nat → Bool) (k : Nat) (b : Bool) (h : k < 160) : spl (bigF f) k (Value.bool b).cells.toList = bigF (fun j => if j = k then b else f j) := by
  apply Array.ext'
  apply List.ext_getElem?
  intro i
  have e1 : (Value.bool b).cells.toList = [Value.bool b] := rfl
  unfold spl
  rw [e1]
  simp only [List.length_cons, List.length_nil, Nat.zero_add]
  rw [List.append_assoc, List.getElem?_append]
  have hl : (bigF f).toList.length = 160 := by simpa using bigF_size f
  have hg : ∀ i, i < 160 → (bigF f).toList[i]? = some (.bool (f i)) := fun i hi => by simpa using bigF_get f i hi
  have hg2 : ∀ g : Nat → Bool, ∀ i, i < 160 → (bigF g).toList[i]? = some (.bool (g i)) := fun g i hi => by simpa using bigF_get g i hi
  have ho : ∀ g : Nat → Bool, ∀ i, 160 ≤ i → (bigF g).toList[i]? = none := fun g i hi => List.getElem?_eq_none (by have := bigF_size g; simp [this]; omega)
  have hmin : (List.take k (bigF f).toList).length = k := by rw [List.length_take, hl]; omega
  rw [hmin]
  by_cases h1 : i < k
  · rw [if_pos h1, List.getElem?_take_of_lt h1, hg i (by omega), hg2 _ i (by omega), if_neg (by omega)]
  · rw [if_neg h1]
    by_cases h2 : i = k
    · subst h2
      rw [hg2 _ i h]
      simp
    · obtain ⟨j, hj⟩ : ∃ j, i = k + (j + 1) := ⟨i - k - 1, by omega⟩
      subst hj
      rw [show k + (j + 1) - k = j + 1 by omega, List.singleton_append, List.getElem?_cons_succ, List.getElem?_drop]
      by_cases h3 : k + (j + 1) < 160
      · rw [show k + 1 + j = k + (j + 1) by omega, hg _ h3, hg2 _ _ h3, if_neg (by omega)]
      · rw [show k + 1 + j = k + (j + 1) by omega, ho f _ (by omega), ho _ _ (by omega)]
abbrev bigA (b : Big) : Array Value := bigF b.getLsbD
abbrev bigV (b : Big) : Value := .agg (bigA b)
def zeroF : Nat → Bool := fun _ => false
theorem big_ext {f : Nat → Bool} {b : Big} (h : ∀ i, i < 160 → f i = b.getLsbD i) : bigF f = bigA b := bigF_congr h

/-- A whole number is loaded, or stored, by law. -/
theorem big_whole (f : Nat → Bool) : Value.agg (((bigF f).toList.drop 0).take 160).toArray = .agg (bigF f) := by
  have hl : (bigF f).toList.length = 160 := by simpa using bigF_size f
  rw [List.drop_zero, List.take_of_length_le (by omega), Array.toArray_toList]
theorem spl_whole (f g : Nat → Bool) : spl (bigF f) 0 (Value.agg (bigF g)).cells.toList = bigF g := by
  unfold spl
  apply Array.ext'
  simp [Value.cells, bigF_size]

/-- The document's 'of'. -/
def ofF (n k : Nat) : Nat → Bool := fun j => decide (j < k) && n.testBit j
theorem ofF_all (n : Nat) (h : n < 18446744073709551616) : bigF (ofF n 64) = bigA (BitVec.ofNat 160 n) := big_ext fun i hi => by
  unfold ofF
  rw [BitVec.getLsbD_ofNat, decide_eq_true hi, Bool.true_and]
  by_cases h2 : i < 64
  · simp [h2]
  · have : n.testBit i = false := Nat.testBit_lt_two_pow (Nat.lt_of_lt_of_le h (Nat.pow_le_pow_right (show 0 < 2 by decide) (show 64 ≤ i by omega)))
    rw [this]; simp
theorem ofF_succ (n k : Nat) (hk : k < 160) : bigF (fun j => if j = k then (((n / 2 ^ k % 2 : Nat) : Int) == 1) else ofF n k j) = bigF (ofF n (k + 1)) := bigF_congr fun i hi => by
  unfold ofF
  by_cases h : i = k
  · subst h
    rw [if_pos rfl]
    have : n.testBit i = decide (n / 2 ^ i % 2 = 1) := by rw [Nat.testBit_eq_decide_div_mod_eq]
    rw [this]
    rcases Nat.mod_two_eq_zero_or_one (n / 2 ^ i) with e | e <;> simp [e]
  · rw [if_neg h]
    by_cases h2 : i < k
    · simp [h2, show i < k + 1 by omega]
    · simp [h2, show ¬ i < k + 1 by omega]

theorem zero_get (g : Nat) : bigF zeroF = bigF (ofF g 0) := bigF_congr fun i _ => by simp [ofF, zeroF]

/-- Two numbers of 160 bits made since W0: the first a result's, zero as yet, the second f. -/
structure Two (W0 W : World) (g h : Nat) (p q : Nat → Bool) : Prop where
  one : Blk W g 53 (bigF p)
  two : Blk W h 53 (bigF q)
  lo : W0.heap.size ≤ g
  up : g < h
  below : Below W0.heap.size W0 W
theorem Two.mk' {W0 W1 W2 : World} {g h : Nat} (h1 : Below W0.heap.size W0 W1) (b1 : Blk W1 g 53 (bigF zeroF)) (l1 : W0.heap.size ≤ g) (h2 : Below W1.heap.size W1 W2)
    (b2 : Blk W2 h 53 (bigF zeroF)) (l2 : W1.heap.size ≤ h) : Two W0 W2 g h zeroF zeroF :=
  ⟨b1.after h2, b2, l1, Nat.lt_of_lt_of_le b1.lt l2, below_then h1 h1.size h2⟩
theorem Two.put {W0 W W' : World} {g h : Nat} {p q q' : Nat → Bool} (H : Two W0 W g h p q) (hB : Blk W' h 53 (bigF q')) (hP : Put W W' h) : Two W0 W' g h p q' :=
  ⟨H.one.put hP (Nat.ne_of_lt H.up), hB, H.lo, H.up, below_put H.below hP (Nat.le_of_lt (Nat.lt_of_le_of_lt H.lo H.up))⟩
theorem Two.put1 {W0 W W' : World} {g h : Nat} {p q p' : Nat → Bool} (H : Two W0 W g h p q) (hB : Blk W' g 53 (bigF p')) (hP : Put W W' g) : Two W0 W' g h p' q :=
  ⟨hB, H.two.put hP (Ne.symm (Nat.ne_of_lt H.up)), H.lo, H.up, below_put H.below hP H.lo⟩
theorem Two.after {W0 W W' : World} {g h : Nat} {p q : Nat → Bool} (H : Two W0 W g h p q) (hb : Below W.heap.size W W') : Two W0 W' g h p q :=
  ⟨H.one.after hb, H.two.after hb, H.lo, H.up, below_then H.below H.below.size hb⟩
theorem bigF_set (f : Nat → Bool) (k : Nat) (b : Bool) : (bigF f).setIfInBounds k (.bool b) = bigF (fun j => if j = k then b else f j) := by
  apply Array.ext
  · simp [bigF_size]
  · intro i h1 h2
    have hi : i < 160 := by simpa [bigF_size] using h2
    have e2 := bigF_get (fun j => if j = k then b else f j) i hi
    have e1 : ((bigF f).setIfInBounds k (.bool b))[i]? = some (.bool (if i = k then b else f i)) := by
      rw [Array.getElem?_setIfInBounds]
      by_cases e : k = i
      · subst e; simp [bigF_size, hi]
      · rw [if_neg e, if_neg (Ne.symm e), bigF_get f i hi]
    rw [Array.getElem?_eq_getElem h1] at e1
    rw [Array.getElem?_eq_getElem h2] at e2
    rw [Option.some.inj e1, Option.some.inj e2]
theorem Two.set {W0 W : World} {g h k : Nat} {p q : Nat → Bool} (H : Two W0 W g h p q) (b : Bool) : Two W0 (W.setCell ⟨h, k, none⟩ (.bool b)) g h p (fun j => if j = k then b else q j) :=
  ⟨H.one.far (Nat.ne_of_lt H.up) _, bigF_set q k b ▸ H.two.set_ k _, H.lo, H.up, H.below.setCell (Nat.le_of_lt (Nat.lt_of_le_of_lt H.lo H.up)) _⟩
theorem Two.put1S {W0 W W' : World} {g h : Nat} {p q p' : Nat → Bool} (H : Two W0 W g h p q) (hB : Blk W' g 53 (bigF p')) (hP : Put W W' g) : Below W0.heap.size W0 W' := below_put H.below hP H.lo

set_option maxRecDepth 100000 in
set_option maxHeartbeats 4000000 in
theorem bof_c (n : Nat) (hn : n < 18446744073709551616) (w : World) : Calls Try.prog 37 #[.int .u64 (n : Nat)] w fun e w' => e = .returned (bigV (BitVec.ofNat 160 n)) ∧ Below w.heap.size w w' := by
  go_enter Try.func37, Try.ntmps37
  go_wp2_with (first
    | (refine wpList_alloc_b rfl (some 2) rfl 53 (bigF zeroF) (by kernel_rfl) ?_; intro g1 W1 hb1 hB1 hg1)
    | (refine wpList_buildTo rfl 53 _ rfl (some 5) rfl (bigF zeroF) (by kernel_rfl) ?_)
    | (refine wpList_alloc_b rfl (some 3) rfl 53 (bigF zeroF) (by kernel_rfl) ?_; intro g2 W2 hb2 hB2 hg2; have H2 := Lib.hid (Two.mk' hb1 hB1 hg1 hb2 hB2 hg2); clear hb1 hB1 hg1 hb2 hB2 hg2)
    | (refine wpList_store_at rfl 53 _ _ rfl H2.out.two (.agg (bigF zeroF)) rfl rfl (by kernel_rfl) (by simp [Value.cells, bigF_size]) (bigF_one zeroF) ?_; intro W3 hB hP; rw [spl_whole] at hB; have H3 := Lib.hid (H2.out.put hB hP); clear hB hP H2))
  go_loopw [0, 4] (fun x i wr => ∃ k : Nat, k ≤ 64 ∧ x = .int .u64 ((n / 2 ^ k : Nat) : Int) ∧ i = .int .i64 k ∧ Two w wr g1 g2 zeroF (ofF n k)) (fun _ i _ => 64 - (intOf i).toNat)
  case atStart => exact ⟨0, by omega, by simp, rfl, ⟨H3.out.one, (zero_get n) ▸ H3.out.two, H3.out.lo, H3.out.up, H3.out.below⟩⟩
  case round =>
    obtain ⟨k, hk, rfl, rfl, hT⟩ := hrel
    clear H3
    have H := Lib.hid hT
    clear hT
    have hd : n / 2 ^ k < 18446744073709551616 := Nat.lt_of_le_of_lt (Nat.div_le_self _ _) hn
    have hs : n / 2 ^ k / 2 = n / 2 ^ (k + 1) := by rw [Nat.pow_succ, Nat.div_div_eq_div_mul]
    have hb := ofF_succ n k
    obtain ⟨x, hx⟩ : ∃ x : Nat, x = n / 2 ^ k := ⟨_, rfl⟩
    rw [← hx] at hd hs hb
    have HS := Lib.hid hs
    have HB := Lib.hid hb
    clear hs hb
    rw [← hx]
    clear hx
    have hr1 := H.out.two.frozen
    by_cases hlt : k < 64
    · have hcell : wr.cell? ⟨g2, k, none⟩ = some (.bool (ofF n k k)) := by rw [H.out.two.cell]; exact bigF_get _ _ (by omega)
      go_wp2_with fail
      have hset := H.out.set (k := k) (((x % 2 : Nat) : Int) == 1)
      have hb2 := HB.out (by omega)
      refine ⟨⟨k + 1, by omega, by rw [← HS.out]; simp, by simp, ⟨hset.one, ?_, hset.lo, hset.up, hset.below⟩⟩, by simp [intOf]; omega⟩
      rw [← hb2]
      exact hset.two
    · obtain rfl : k = 64 := by omega
      have hall := ofF_all n hn
      go_wp2_with (first
        | (refine wpList_load_at rfl 53 _ rfl H.out.two 160 (bigV (BitVec.ofNat 160 n)) rfl _ Try.underlying53 rfl (by kernel_rfl) (by rw [bigF_size]; decide) (by rw [big_whole, hall]) ?_)
        | (refine wpList_store_at rfl 53 _ _ rfl H.out.one (bigV (BitVec.ofNat 160 n)) rfl rfl (by kernel_rfl) (by simp [Value.cells, bigF_size]) (bigF_one _) ?_; intro W4 hB hP; rw [spl_whole] at hB; have HB4 := Lib.hid hB; have HL := Lib.hid (H.out.put1S hB hP); clear hB hP H))
      exact post_cell rfl rfl HB4.out Try.underlying53 rfl (by rw [bigF_size]; kernel_rfl) rfl ⟨rfl, HL.out⟩
end Go.Proofs.Ythoagfoekopioaa
