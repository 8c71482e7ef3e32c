/- The law BitsFirst: its walk. -/
import Derived.Test.YtmhbblkihjmonaaDoorL3
set_option linter.unusedVariables false
namespace Go.Proofs.YtmhbblkihjmonaaDoor
open Go.RowKit Go.Sort

set_option maxHeartbeats 4000000 in
theorem bitsFirst_out (s : NS) (k : Int) (hk : -9223372036854775808 ≤ k ∧ k ≤ 9223372036854775807) (h : k < 0 ∨ (cnt s : Int) < k) (w : World) (hT : TabW w) : Calls Tryd.prog 8 #[nsV s, .int .i64 k] w fun e w' => e = .returned (.bool true) ∧ Below w.heap.size w w' := by
  have HT := Lib.hid hT
  clear hT
  have f1 : firstS s k = emptyS := by unfold firstS; rw [if_neg (by omega)]
  have f2 : firstOk s k = false := by
    unfold firstOk
    rw [← Bool.decide_and]
    exact decide_eq_false (by omega)
  go_enter Tryd.func8, Tryd.ntmps8
  go_wp2_with fail
  refine (first_c s k _ (HT.out.alloc _)).mono ?_
  rw [f1, f2, empty_val]
  rintro e w1 ⟨rfl, hb⟩
  have HL := Lib.hid (below_then ((Below.refl w.heap.size w).alloc (Nat.le_refl _) _) (by simp) hb)
  have hB := (Blk.new w 24 (nsA s)).after hb
  have HB := Lib.hid hB
  have HT1 := Lib.hid ((HT.out.alloc _).after hb)
  obtain ⟨r1, r2, r3⟩ := hB.rules
  clear hb hB
  by_cases h0 : k < 0
  · go_wp2_with fail
    refine (alive_c _ (HT1.out.alloc _)).mono ?_
    rintro e w2 ⟨rfl, hb⟩
    have HL2 := Lib.hid (below_then (HL.out.alloc HL.out.size _) (by have := HL.out.size; simp; omega) hb)
    clear hb
    go_wp2
    go_ret
    exact ⟨rfl, HL2.out⟩
  · have h1 : (cnt s : Int) < k := by omega
    go_wp2_with fail
    refine (count_c s _).mono ?_
    rintro e w2 ⟨rfl, hb⟩
    have HL2 := Lib.hid (below_then (HL.out.alloc HL.out.size _) (by have := HL.out.size; simp; omega) hb)
    have HT2 := Lib.hid ((HT1.out.alloc _).after hb)
    clear hb
    go_wp2_with fail
    refine (alive_c _ HT2.out).mono ?_
    rintro e w3 ⟨rfl, hb⟩
    have HL3 := Lib.hid (below_then HL2.out HL2.out.size hb)
    clear hb
    go_wp2
    go_ret
    exact ⟨rfl, HL3.out⟩

set_option maxHeartbeats 4000000 in
theorem bitsFirst_in (s : NS) (k : Int) (hk0 : 0 ≤ k) (hk1 : k ≤ (cnt s : Int)) (w : World) (hT : TabW w) : Calls Tryd.prog 8 #[nsV s, .int .i64 k] w fun e w' => e = .returned (.bool true) ∧ Below w.heap.size w w' := by
  have HT := Lib.hid hT
  clear hT
  obtain ⟨n, rfl⟩ := Int.eq_ofNat_of_zero_le hk0
  have hc := cnt_le s
  have hn : n ≤ cnt s := by omega
  obtain ⟨a, ha⟩ : ∃ a, a = ofL ((lst s).take n) := ⟨_, rfl⟩
  have f1 : firstS s n = a := by unfold firstS; rw [if_pos (by omega), ha, Int.toNat_natCast]
  have f2 : firstOk s n = true := by
    unfold firstOk
    rw [← Bool.decide_and]
    exact decide_eq_true (by omega)
  have c1 : cnt a = n := by rw [ha]; exact cnt_take s n hn
  have c2 : a ||| notS s a = s := by rw [ha]; exact take_or s n
  have hwrap : IntKind.i64.wrap ((n : Int) - 1) = n - 1 := by rw [IntKind.wrap_i64]; omega
  have o1 : nthOk a ((n : Int) - 1) = decide (0 < (n : Int)) := by
    unfold nthOk
    rw [← Bool.decide_and, c1]
    exact decide_eq_decide.2 (by omega)
  have O1 := Lib.hid o1
  clear o1
  have hless : nthOk a ((n : Int) - 1) = true → nthOk (notS s a) 0 = true → nthV a ((n : Int) - 1) < nthV (notS s a) 0 := fun h1 h2 => by
    have g1 := nth_has _ _ h1
    have g2 := nth_has _ _ h2
    rw [ha] at g1 g2 ⊢
    exact take_lt s n g1 g2
  clear ha
  go_enter Tryd.func8, Tryd.ntmps8
  go_wp2_with fail
  refine (first_c s n _ (HT.out.alloc _)).mono ?_
  rw [f1, f2]
  rintro e w1 ⟨rfl, hb⟩
  have HL := Lib.hid (below_then ((Below.refl w.heap.size w).alloc (Nat.le_refl _) _) (by simp) hb)
  have hB := (Blk.new w 24 (nsA s)).after hb
  have HB := Lib.hid hB
  have HT1 := Lib.hid ((HT.out.alloc _).after hb)
  obtain ⟨r1, r2, r3⟩ := hB.rules
  clear hb hB
  go_wp2_with fail
  refine (not_c s a _).mono ?_
  rintro e w2 ⟨rfl, hb⟩
  have HL2 := Lib.hid (below_then (HL.out.alloc HL.out.size _) (by have := HL.out.size; simp; omega) hb)
  have hB := (HB.out.alloc _).after hb
  have hA := (Blk.new w1 24 (nsA a)).after hb
  have HB2 := Lib.hid hB
  have HA2 := Lib.hid hA
  have HT2 := Lib.hid ((HT1.out.alloc _).after hb)
  clear hb hB hA r1 r2 HL HB HT1
  have x1 := HL2.out.size
  have x2 := HB2.out.lt
  have x3 := HA2.out.lt
  go_wp2_with fail
  refine region_b (fun W2 => (∀ o, W2.cell? ⟨w.heap.size, o, none⟩ = (nsA s)[o]?) ∧ (∀ o, W2.cell? ⟨w1.heap.size, o, none⟩ = (nsA a)[o]?) ∧ (∀ o, W2.cell? ⟨w2.heap.size, o, none⟩ = (nsA (notS s a))[o]?) ∧ w2.heap.size < W2.heap.size ∧ TabW W2 ∧ Below w.heap.size w W2) (by kernel_rfl) (by kernel_rfl) ?_ ?_
  · exact ⟨(HB2.out.alloc _).cell, (HA2.out.alloc _).cell, (Blk.new w2 24 (nsA (notS s a))).cell, (Blk.new w2 24 (nsA (notS s a))).lt, HT2.out.alloc _, HL2.out.alloc x1 _⟩
  clear HB2 HA2 HT2 HL2
  rintro W2 ⟨h1, h2, h3, h4, h5, h6⟩
  have r1 := cells_on h1 (by omega)
  have r2 := cells_on h2 (by omega)
  have r4 := cells_on h3 (by omega)
  have H1 := Lib.hid h1
  have H2 := Lib.hid h2
  have H3 := Lib.hid h3
  have H5 := Lib.hid h5
  have H6 := Lib.hid h6
  clear h1 h2 h3 h5 h6
  repeat (quiet_step (first | exact Calls.regrown_of (count_c _ _) | exact Calls.regrown_of (or_c _ _ _)))
  refine wpQuiet_nil ?_
  intro w3 hb
  have q2 : ∀ o, w3.cell? ⟨w1.heap.size, o, none⟩ = (nsA a)[o]? := fun o => (hb.cell (p := ⟨w1.heap.size, o, none⟩) (by dsimp only; omega)).trans (H2.out o)
  have q3 : ∀ o, w3.cell? ⟨w2.heap.size, o, none⟩ = (nsA (notS s a))[o]? := fun o => (hb.cell (p := ⟨w2.heap.size, o, none⟩) (by dsimp only; omega)).trans (H3.out o)
  have Q3 := Lib.hid q3
  have HT3 := Lib.hid (H5.out.after hb)
  have HL3 := Lib.hid (below_then H6.out (by omega) hb)
  have x4 := hb.size
  clear hb r1 r2 r4 H1 H2 H3 H5 H6 q3
  go_wp2_with fail
  refine (nth_c a ((n : Int) - 1) _ HT3.out (by omega)).mono ?_
  rintro e w4 ⟨rfl, hb⟩
  have q4 : ∀ o, w4.cell? ⟨w2.heap.size, o, none⟩ = (nsA (notS s a))[o]? := fun o => (hb.cell (p := ⟨w2.heap.size, o, none⟩) (by dsimp only; omega)).trans (Q3.out o)
  have HT4 := Lib.hid (HT3.out.after hb)
  have HL4 := Lib.hid (below_then HL3.out HL3.out.size hb)
  clear hb q2 Q3 HT3 HL3
  go_wp2_with fail
  refine (nth_c (notS s a) 0 _ HT4.out (by omega)).mono ?_
  rintro e w5 ⟨rfl, hb⟩
  have HT5 := Lib.hid (HT4.out.after hb)
  have HL5 := Lib.hid (below_then HL4.out HL4.out.size hb)
  clear hb q4 HT4 HL4
  have e1 : (!nthOk a ((n : Int) - 1) || !nthOk (notS s a) 0 || decide (nthV a ((n : Int) - 1) < nthV (notS s a) 0)) = true := by
    cases z1 : nthOk a ((n : Int) - 1)
    · rfl
    · cases z2 : nthOk (notS s a) 0
      · rfl
      · simpa using hless z1 z2
  clear hless
  generalize nthV a ((n : Int) - 1) = v1 at *
  generalize nthV (notS s a) 0 = v2 at *
  generalize nthOk (notS s a) 0 = b2 at *
  by_cases hpos : 0 < (n : Int)
  · have o2 : nthOk a ((n : Int) - 1) = true := by rw [O1.out]; exact decide_eq_true hpos
    rw [o2] at e1 ⊢
    clear o2
    by_cases hl : v1 < v2
    · cases b2
      all_goals
        go_wp2_with fail
        refine (alive_c _ HT5.out).mono ?_
        rintro e w6 ⟨rfl, hb⟩
        have HL6 := Lib.hid (below_then HL5.out HL5.out.size hb)
        clear hb
        go_wp2
        go_ret
        exact ⟨rfl, HL6.out⟩
    · obtain rfl : b2 = false := by
        cases b2
        · rfl
        · exact absurd (by simpa using e1) hl
      go_wp2_with fail
      refine (alive_c _ HT5.out).mono ?_
      rintro e w6 ⟨rfl, hb⟩
      have HL6 := Lib.hid (below_then HL5.out HL5.out.size hb)
      clear hb
      go_wp2
      go_ret
      exact ⟨rfl, HL6.out⟩
  · have o2 : nthOk a ((n : Int) - 1) = false := by rw [O1.out]; exact decide_eq_false hpos
    rw [o2] at e1 ⊢
    clear o2
    go_wp2_with fail
    refine (alive_c _ HT5.out).mono ?_
    rintro e w6 ⟨rfl, hb⟩
    have HL6 := Lib.hid (below_then HL5.out HL5.out.size hb)
    clear hb
    go_wp2
    go_ret
    exact ⟨rfl, HL6.out⟩
theorem bitsFirst_w (s : NS) (k : Int) (hk : -9223372036854775808 ≤ k ∧ k ≤ 9223372036854775807) (w : World) (hT : TabW w) : Calls Tryd.prog 8 #[nsV s, .int .i64 k] w fun e w' => e = .returned (.bool true) ∧ Below w.heap.size w w' := by
  by_cases h : 0 ≤ k ∧ k ≤ (cnt s : Int)
  · exact bitsFirst_in s k h.1 h.2 w hT
  · exact bitsFirst_out s k hk (by omega) w hT
end Go.Proofs.YtmhbblkihjmonaaDoor
