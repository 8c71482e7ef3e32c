/- The laws of sets: their walks. -/
import Derived.Test.YtmhbblkihjmonaaDoorBa
import Derived.Deep.RegionHeld3
set_option linter.unusedVariables false
namespace Go.Proofs.YtmhbblkihjmonaaDoor
open Go.RowKit

theorem reads_lit {w : World} {g : Nat} {t : TypeId} {xs : List Int} (h : Blk w g t (nums xs).toArray) (hl : xs.length ≤ 9223372036854775807) : ReadsI w (some ⟨g, 0, none⟩) xs.length xs :=
  ⟨rfl, hl, fun _ => ⟨_, rfl, fun j hj => by
    rw [add_plain, h.cell]
    simp [nums, List.getElem?_eq_getElem hj, List.getD_eq_getElem?_getD]⟩⟩

/-- The probe's set. -/
def probe : NS := ofL [0, 64, 255]
theorem probe_words : wn probe 0 = 1 ∧ wn probe 1 = 1 ∧ wn probe 2 = 0 ∧ wn probe 3 = 9223372036854775808 := by decide +kernel
theorem probe_lst : lst probe = [0, 64, 255] := by decide +kernel
theorem probe_cnt : cnt probe = 3 := by decide +kernel

theorem probe_val : nsV probe = .agg #[.int .u64 1, .int .u64 1, .int .u64 0, .int .u64 9223372036854775808] := by
  obtain ⟨p0, p1, p2, p3⟩ := probe_words
  simp [nsV, p0, p1, p2, p3]
theorem of_probe (w : World) : Calls Tryd.prog 25 #[.slice (some ⟨w.heap.size, 0, none⟩) 3 3] (w.alloc (.cells #[.int .i64 0, .int .i64 64, .int .i64 255] 3)) fun e w' => e = .returned (.agg #[.int .u64 1, .int .u64 1, .int .u64 0, .int .u64 9223372036854775808]) ∧ Below w.heap.size w w' := by
  have h := of_c _ 3 3 [0, 64, 255] _ (reads_lit (w := w.alloc (.cells #[.int .i64 0, .int .i64 64, .int .i64 255] 3)) (xs := [0, 64, 255]) (Blk.new _ _ _) (by decide)) (by decide)
  rw [← probe_val]
  exact h.mono fun e w' ⟨h1, h2⟩ => ⟨h1, below_then ((Below.refl w.heap.size w).alloc (by simp) _) (by simp) h2⟩
theorem count_probe (w : World) : Calls Tryd.prog 24 #[.agg #[.int .u64 1, .int .u64 1, .int .u64 0, .int .u64 9223372036854775808]] w fun e w' => e = .returned (.int .i64 3) ∧ Below w.heap.size w w' := by
  have h := count_c probe w
  rw [probe_val, probe_cnt] at h
  exact h
theorem list_probe (w : World) (hT : TabW w) : Calls Tryd.prog 39 #[.agg #[.int .u64 1, .int .u64 1, .int .u64 0, .int .u64 9223372036854775808]] w fun e w' => ∃ A c, e = .returned (.slice A 3 c) ∧ ReadsI w' A 3 [0, 64, 255] ∧ Below w.heap.size w w' := by
  have h := list_c probe w hT
  rw [probe_val, probe_lst] at h
  exact h.mono fun e w' ⟨v, h1, h2, h3⟩ => by
    obtain ⟨A, c, rfl, hR, _⟩ := own_reads h2
    exact ⟨A, c, h1, hR, h3⟩
set_option maxHeartbeats 2000000 in
theorem alive_c (w : World) (hT : TabW w) : Calls Tryd.prog 23 #[] w fun e w' => e = .returned (.bool true) ∧ Below w.heap.size w w' := by
  have HT := Lib.hid hT
  clear hT
  go_enter Tryd.func23, Tryd.ntmps23
  go_wp2_with fail
  refine (of_probe w).mono ?_
  rintro e w1 ⟨rfl, hb⟩
  have HL := Lib.hid hb
  have HT1 := Lib.hid (HT.out.after hb)
  clear hb
  go_wp2_with fail
  refine (count_probe _).mono ?_
  rintro e w2 ⟨rfl, hb⟩
  have HB1 := Lib.hid ((Blk.new w1 24 #[.int .u64 1, .int .u64 1, .int .u64 0, .int .u64 9223372036854775808]).after hb)
  have HL2 := Lib.hid (below_then (HL.out.alloc HL.out.size _) (by have := HL.out.size; simp; omega) hb)
  have HT2 := Lib.hid ((HT1.out.alloc _).after hb)
  obtain ⟨r1, r2, r3⟩ := HB1.out.rules
  clear hb
  go_wp2_with fail
  refine (list_probe _ HT2.out).mono ?_
  rintro e w3 ⟨A, c, rfl, hR, hb⟩
  have HL3 := Lib.hid (below_then HL2.out HL2.out.size hb)
  have HR := Lib.hid hR
  clear hb hR
  go_wp2_with fail
  refine (ints_c A (some ⟨w3.heap.size, 0, none⟩) 3 c 3 3 [0, 64, 255] [0, 64, 255] _ (HR.out.below ((Below.refl _ _).alloc (Nat.le_refl _) _)) (reads_lit (xs := [0, 64, 255]) (Blk.new _ _ _) (by decide))).mono ?_
  rintro e w4 ⟨rfl, hb⟩
  have HL4 := Lib.hid (below_then (HL3.out.alloc HL3.out.size _) (by have := HL3.out.size; simp; omega) hb)
  clear hb
  go_wp2_with fail
  go_ret
  exact ⟨rfl, HL4.out⟩

/-- What a law's region loads: two sets, and the library's table; kept where only new memory is made. -/
theorem keepTwo {w W w1 : World} {a b n B : Nat} {P Q : Nat → Option Value} (h : (∀ o, W.cell? ⟨a, o, none⟩ = P o) ∧ (∀ o, W.cell? ⟨b, o, none⟩ = Q o) ∧ n ≤ W.heap.size ∧ TabW W ∧ Below B w W) (hB : Below W.heap.size W w1) (ha : a < n) (hb : b < n) (hn : B ≤ n) :
    (∀ o, w1.cell? ⟨a, o, none⟩ = P o) ∧ (∀ o, w1.cell? ⟨b, o, none⟩ = Q o) ∧ n ≤ w1.heap.size ∧ TabW w1 ∧ Below B w w1 :=
  ⟨fun o => (hB.cell (p := ⟨a, o, none⟩) (Nat.lt_of_lt_of_le ha h.2.2.1)).trans (h.1 o), fun o => (hB.cell (p := ⟨b, o, none⟩) (Nat.lt_of_lt_of_le hb h.2.2.1)).trans (h.2.1 o), Nat.le_trans h.2.2.1 hB.size, h.2.2.2.1.after hB,
    below_then h.2.2.2.2 (Nat.le_trans hn h.2.2.1) hB⟩
set_option maxHeartbeats 4000000 in
theorem bitsTwo_w (s t : NS) (w : World) (hT : TabW w) : Calls Tryd.prog 3 #[nsV s, nsV t] w fun e w' => e = .returned (.bool true) ∧ Below w.heap.size w w' := by
  have HT := Lib.hid hT
  clear hT
  go_enter Tryd.func3, Tryd.ntmps3
  go_wp2_with fail
  go_region_held3 (fun w' => (∀ o, w'.cell? ⟨w.heap.size, o, none⟩ = (nsA s)[o]?) ∧ (∀ o, w'.cell? ⟨w.heap.size + 1, o, none⟩ = (nsA t)[o]?) ∧ w.heap.size + 2 ≤ w'.heap.size ∧ TabW w' ∧ Below w.heap.size w w')
    (first | exact keepTwo ‹_› hb (by omega) (by omega) (by omega) | exact ⟨(((Blk.new' (t := 24) rfl).alloc _).drew).cell, ((Blk.new' (t := 24) (by simp)).drew).cell, by simp, (HT.out.alloc _).alloc _, (((Below.refl _ _).alloc (by simp) _).alloc (by simp) _).drew⟩)
    (first
      | ((with_reducible refine (and_c s t _).mono ?_); rintro e w1 ⟨rfl, hb⟩)
      | ((with_reducible refine (rand_c s t _).mono ?_); rintro e w1 ⟨rfl, hb⟩)
      | ((with_reducible refine (or_c s t _).mono ?_); rintro e w1 ⟨rfl, hb⟩)
      | ((with_reducible refine (ror_c s t _).mono ?_); rintro e w1 ⟨rfl, hb⟩)
      | ((with_reducible refine (not_c s t _).mono ?_); rintro e w1 ⟨rfl, hb⟩)
      | ((with_reducible refine (rnot_c s t _).mono ?_); rintro e w1 ⟨rfl, hb⟩)
      | ((with_reducible refine (alive_c _ (And.left (And.right (And.right (And.right ‹_›))))).mono ?_); rintro e w1 ⟨rfl, hb⟩))
  go_wp2
  go_ret
  exact ⟨rfl, And.right (And.right (And.right (And.right ‹_›)))⟩
end Go.Proofs.YtmhbblkihjmonaaDoor
