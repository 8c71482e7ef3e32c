/- The law BitsLists: its walk. -/
import Derived.Test.YtmhbblkihjmonaaDoorL3
set_option linter.unusedVariables false
namespace Go.Proofs.YtmhbblkihjmonaaDoor
open Go.RowKit Go.Sort

theorem keepLists {w W w1 : World} {a b d n B : Nat} {P Q R : Nat → Option Value} (h : (∀ o, W.cell? ⟨a, o, none⟩ = P o) ∧ (∀ o, W.cell? ⟨b, o, none⟩ = Q o) ∧ (∀ o, W.cell? ⟨d, o, none⟩ = R o) ∧ n ≤ W.heap.size ∧ TabW W ∧ Below B w W) (hB : Below W.heap.size W w1) (ha : a < n) (hb : b < n) (hd : d < n) (hn : B ≤ n) :
    (∀ o, w1.cell? ⟨a, o, none⟩ = P o) ∧ (∀ o, w1.cell? ⟨b, o, none⟩ = Q o) ∧ (∀ o, w1.cell? ⟨d, o, none⟩ = R o) ∧ n ≤ w1.heap.size ∧ TabW w1 ∧ Below B w w1 :=
  ⟨fun o => (hB.cell (p := ⟨a, o, none⟩) (Nat.lt_of_lt_of_le ha h.2.2.2.1)).trans (h.1 o), fun o => (hB.cell (p := ⟨b, o, none⟩) (Nat.lt_of_lt_of_le hb h.2.2.2.1)).trans (h.2.1 o), fun o => (hB.cell (p := ⟨d, o, none⟩) (Nat.lt_of_lt_of_le hd h.2.2.2.1)).trans (h.2.2.1 o),
    Nat.le_trans h.2.2.2.1 hB.size, h.2.2.2.2.1.after hB, below_then h.2.2.2.2.2 (Nat.le_trans hn h.2.2.2.1) hB⟩

theorem fresh_lists {w W : World} {a b d n B : Nat} {P Q R : Nat → Option Value} (h : (∀ o, W.cell? ⟨a, o, none⟩ = P o) ∧ (∀ o, W.cell? ⟨b, o, none⟩ = Q o) ∧ (∀ o, W.cell? ⟨d, o, none⟩ = R o) ∧ n ≤ W.heap.size ∧ TabW W ∧ Below B w W) : TabW W := h.2.2.2.2.1
theorem list_cc (s : NS) (w : World) (hT : TabW w) : Calls Tryd.prog 39 #[nsV s] w fun e w' => ∃ A c, e = .returned (.slice A (cnt s) c) ∧ ReadsI w' A (cnt s) (lst s) ∧ Below w.heap.size w w' :=
  (list_c s w hT).mono fun e w' ⟨v, h1, h2, h3⟩ => by
    obtain ⟨A, c, rfl, hR, _⟩ := own_reads h2
    rw [lst_length] at hR h1
    exact ⟨A, c, h1, hR, h3⟩
theorem rlist_cc (s : NS) (w : World) : Calls Tryd.prog 37 #[nsV s] w fun e w' => ∃ A c, e = .returned (.slice A (cnt s) c) ∧ ReadsI w' A (cnt s) (lst s) ∧ Below w.heap.size w w' :=
  (rlist_c s w).mono fun e w' ⟨v, h1, h2, h3⟩ => by
    obtain ⟨A, c, rfl, hR, _⟩ := own_reads h2
    rw [lst_length] at hR h1
    exact ⟨A, c, h1, hR, h3⟩
set_option maxHeartbeats 8000000 in
theorem bitsLists_w (s : NS) (k : Int) (hk : -9223372036854775808 ≤ k ∧ k ≤ 9223372036854775807) (w : World) (hT : TabW w) : Calls Tryd.prog 7 #[nsV s, .int .i64 k] w fun e w' => e = .returned (.bool true) ∧ Below w.heap.size w w' := by
  have HT := Lib.hid hT
  clear hT
  go_enter Tryd.func7, Tryd.ntmps7
  go_wp2_with fail
  refine (first_c s k _ (HT.out.alloc _)).mono ?_
  rintro e w1 ⟨rfl, hb⟩
  have HL := Lib.hid (below_then ((Below.refl w.heap.size w).alloc (Nat.le_refl _) _) (by simp) hb)
  have hB := (Blk.new w 24 (nsA s)).after hb
  have HB := Lib.hid hB
  have HT1 := Lib.hid ((HT.out.alloc _).after hb)
  obtain ⟨r1, r2, r3⟩ := hB.rules
  clear hb hB
  go_wp2_with fail
  refine (rfirst_c s k _).mono ?_
  rintro e w2 ⟨rfl, hb⟩
  have HL2 := Lib.hid (below_then (HL.out.alloc HL.out.size _) (by have := HL.out.size; simp; omega) hb)
  have hB := (HB.out.alloc _).after hb
  have hA := (Blk.new w1 24 (nsA (firstS s k))).after hb
  have HB2 := Lib.hid hB
  have HA2 := Lib.hid hA
  have HT2 := Lib.hid ((HT1.out.alloc _).after hb)
  obtain ⟨s1, s2, s3⟩ := hB.rules
  clear hb hB hA r1 r2 HL HB HT1
  go_wp2_with fail
  refine (nth_c s k _ (HT2.out.alloc _) hk.2).mono ?_
  rintro e w3 ⟨rfl, hb⟩
  have HL3 := Lib.hid (below_then (HL2.out.alloc HL2.out.size _) (by have := HL2.out.size; simp; omega) hb)
  have hB := (HB2.out.alloc _).after hb
  have hA := (HA2.out.alloc _).after hb
  have hC := (Blk.new w2 24 (nsA (firstS s k))).after hb
  have HB3 := Lib.hid hB
  have HA3 := Lib.hid hA
  have HC3 := Lib.hid hC
  have HT3 := Lib.hid ((HT2.out.alloc _).after hb)
  obtain ⟨t1, t2, t3⟩ := hB.rules
  clear hb hB hA hC s1 s2 HL2 HB2 HA2 HT2
  go_wp2_with fail
  refine (rnth_c s k _).mono ?_
  rintro e w4 ⟨rfl, hb⟩
  have HL4 := Lib.hid (below_then HL3.out HL3.out.size hb)
  have HB4 := Lib.hid (HB3.out.after hb)
  have HA4 := Lib.hid (HA3.out.after hb)
  have HC4 := Lib.hid (HC3.out.after hb)
  have HT4 := Lib.hid (HT3.out.after hb)
  clear hb t1 t2 HL3 HB3 HA3 HC3 HT3
  have x1 := HL4.out.size
  have x2 := HB4.out.lt
  have x3 := HA4.out.lt
  have x4 := HC4.out.lt
  go_wp2_with fail
  go_region_held3 (fun W2 => (∀ o, W2.cell? ⟨w.heap.size, o, none⟩ = (nsA s)[o]?) ∧ (∀ o, W2.cell? ⟨w1.heap.size, o, none⟩ = (nsA (firstS s k))[o]?) ∧ (∀ o, W2.cell? ⟨w2.heap.size, o, none⟩ = (nsA (firstS s k))[o]?) ∧ w4.heap.size ≤ W2.heap.size ∧ TabW W2 ∧ Below w.heap.size w W2)
    (first | exact keepLists ‹_› hb (by omega) (by omega) (by omega) (by omega) | exact ⟨HB4.out.drew.cell, HA4.out.drew.cell, HC4.out.drew.cell, Nat.le_refl _, HT4.out, HL4.out.drew⟩)
    (first
      | ((with_reducible refine (count_c s _).mono ?_); rintro e w5 ⟨rfl, hb⟩)
      | ((with_reducible refine (rlist_cc s _).mono ?_); rintro e w5 ⟨A2, c2, rfl, hR2, hb⟩; (try have hR1 := hR1.below hb))
      | ((with_reducible refine (list_cc s _ (fresh_lists ‹_›)).mono ?_); rintro e w5 ⟨A1, c1, rfl, hR1, hb⟩)
      | ((with_reducible refine (ints_c A1 A2 _ c1 _ c2 _ _ _ hR1 hR2).mono ?_); rintro e w5 ⟨rfl, hb⟩)
      | ((with_reducible refine (alive_c _ (fresh_lists ‹_›)).mono ?_); rintro e w5 ⟨rfl, hb⟩))
  all_goals
    go_wp2
    go_ret
    exact ⟨rfl, And.right (And.right (And.right (And.right (And.right ‹_›))))⟩
end Go.Proofs.YtmhbblkihjmonaaDoor
