/- The laws BitsMoves and BitsParts: their walks. -/
import Derived.Test.YtmhbblkihjmonaaDoorL1
import Derived.Test.YtmhbblkihjmonaaDoorFa
import Derived.Test.YtmhbblkihjmonaaDoorQb
set_option linter.unusedVariables false
namespace Go.Proofs.YtmhbblkihjmonaaDoor
open Go.RowKit

theorem keepOne {w W w1 : World} {a n B : Nat} {P : Nat → Option Value} (h : (∀ o, W.cell? ⟨a, o, none⟩ = P o) ∧ n ≤ W.heap.size ∧ TabW W ∧ Below B w W) (hB : Below W.heap.size W w1) (ha : a < n) (hn : B ≤ n) :
    (∀ o, w1.cell? ⟨a, o, none⟩ = P o) ∧ n ≤ w1.heap.size ∧ TabW w1 ∧ Below B w w1 :=
  ⟨fun o => (hB.cell (p := ⟨a, o, none⟩) (Nat.lt_of_lt_of_le ha h.2.1)).trans (h.1 o), Nat.le_trans h.2.1 hB.size, h.2.2.1.after hB, below_then h.2.2.2 (Nat.le_trans hn h.2.1) hB⟩
set_option maxHeartbeats 4000000 in
theorem bitsMoves_w (s : NS) (b : Int) (hb : -9223372036854775808 ≤ b ∧ b ≤ 9223372036854775807) (w : World) (hT : TabW w) : Calls Tryd.prog 6 #[nsV s, .int .i64 b] w fun e w' => e = .returned (.bool true) ∧ Below w.heap.size w w' := by
  have HT := Lib.hid hT
  clear hT
  go_enter Tryd.func6, Tryd.ntmps6
  go_wp2_with fail
  go_region_held3 (fun w' => (∀ o, w'.cell? ⟨w.heap.size, o, none⟩ = (nsA s)[o]?) ∧ w.heap.size + 1 ≤ w'.heap.size ∧ TabW w' ∧ Below w.heap.size w w')
    (first | exact keepOne ‹_› hb (by omega) (by omega) | exact ⟨((Blk.new' (t := 24) rfl).drew).cell, by simp, (HT.out.alloc _), ((Below.refl _ _).alloc (by simp) _).drew⟩)
    (first
      | ((with_reducible refine (move_c s b _).mono ?_); rintro e w1 ⟨rfl, hb⟩)
      | ((with_reducible refine (rmove_c s b _).mono ?_); rintro e w1 ⟨rfl, hb⟩)
      | ((with_reducible refine (alive_c _ (And.left (And.right (And.right ‹_›)))).mono ?_); rintro e w1 ⟨rfl, hb⟩))
  go_wp2
  go_ret
  exact ⟨rfl, And.right (And.right (And.right ‹_›))⟩
/-- Two sets in their boxes, and the table. -/
abbrev twoS (w : World) (s t : NS) : World → Prop := fun W => (∀ o, W.cell? ⟨w.heap.size, o, none⟩ = (nsA s)[o]?) ∧ (∀ o, W.cell? ⟨w.heap.size + 1, o, none⟩ = (nsA t)[o]?) ∧ w.heap.size + 2 ≤ W.heap.size ∧ TabW W ∧ Below w.heap.size w W
theorem twoS_new {w : World} (s t : NS) (hT : TabW w) : twoS w s t ((w.alloc (.cells (nsA s) 24)).alloc (.cells (nsA t) 24)) :=
  ⟨((Blk.new' (t := 24) rfl).alloc _).cell, (Blk.new' (t := 24) (by simp)).cell, by simp, (hT.alloc _).alloc _, ((Below.refl _ _).alloc (by simp) _).alloc (by simp) _⟩
set_option maxHeartbeats 4000000 in
theorem bitsParts_w (s t : NS) (w : World) (hT : TabW w) : Calls Tryd.prog 4 #[nsV s, nsV t] w fun e w' => e = .returned (.bool true) ∧ Below w.heap.size w w' := by
  have HT := Lib.hid hT
  clear hT
  go_enter Tryd.func4, Tryd.ntmps4
  go_wp2_with fail
  refine region_bl 6 8 (fun _ => .cells #[.int .u64 0, .int .u64 0, .int .u64 0, .int .u64 0] 24) (twoS w s t) (by kernel_rfl) (by kernel_rfl) (by decide) (twoS_new s t HT.out) (fun i h1 h2 o ho a w => ?_) ?_
  · obtain rfl | rfl : i = 6 ∨ i = 7 := by omega
    all_goals
      simp only [List.getElem?_toArray, List.getElem?_cons_succ, List.getElem?_cons_zero, Option.some.injEq] at ho
      subst ho
      refine ⟨rfl, ?_⟩
      go_simp
  rintro W ⟨h1, h2, h3, h4, h5⟩
  have r1 := cells_on h1 (by omega)
  have r2 := cells_on h2 (by omega)
  have H1 := Lib.hid h1
  have H2 := Lib.hid h2
  have H4 := Lib.hid h4
  have H5 := Lib.hid h5
  clear h1 h2 h4 h5
  simp only [List.take_succ_cons, List.take_zero, List.drop_succ_cons, List.drop_zero]
  repeat (refine wpG_step (fun K hK => ?_); go_simp; first | (refine hK _ ?_; clear hK K) | (apply Exists.intro; refine ⟨fun _ => ?_, hK _ ?_⟩; (first | exact calls_on (and_c s t _) | exact calls_on (not_c s t _)); clear hK K))
  refine wpG_nil ?_
  intro g1 hg1 g2 hg2 w1 hb hA
  obtain ⟨b1, b2, hne⟩ := laid_two hA hg2
  have hB1 : W.heap.size ≤ g1 := hg1.2
  have hB2 : W.heap.size ≤ g2 := hg2.2
  replace b1 : Blk w1 g1 24 #[.int .u64 0, .int .u64 0, .int .u64 0, .int .u64 0] := b1
  replace b2 : Blk w1 g2 24 #[.int .u64 0, .int .u64 0, .int .u64 0, .int .u64 0] := b2
  clear hg1 hg2 hA
  obtain ⟨p1, p2, p3⟩ := b1.rules
  obtain ⟨q1, q2, q3⟩ := b2.rules
  have c1 := (b1.four (.int .u64 (wn (s &&& t) 0 : Nat)) (.int .u64 (wn (s &&& t) 1 : Nat)) (.int .u64 (wn (s &&& t) 2 : Nat)) (.int .u64 (wn (s &&& t) 3 : Nat))).far4 (Ne.symm hne) (.int .u64 (wn (notS s t) 0 : Nat)) (.int .u64 (wn (notS s t) 1 : Nat)) (.int .u64 (wn (notS s t) 2 : Nat)) (.int .u64 (wn (notS s t) 3 : Nat))
  have c2 := (b2.far4 hne (.int .u64 (wn (s &&& t) 0 : Nat)) (.int .u64 (wn (s &&& t) 1 : Nat)) (.int .u64 (wn (s &&& t) 2 : Nat)) (.int .u64 (wn (s &&& t) 3 : Nat))).four (.int .u64 (wn (notS s t) 0 : Nat)) (.int .u64 (wn (notS s t) 1 : Nat)) (.int .u64 (wn (notS s t) 2 : Nat)) (.int .u64 (wn (notS s t) 3 : Nat))
  have C1 := Lib.hid c1
  have C2 := Lib.hid c2
  have HB := Lib.hid hb
  clear c1 c2 hb b1 b2
  go_wp2_with fail
  have e1 : IntKind.i64.wrap ((cnt (s &&& t) : Nat) + (cnt (notS s t) : Nat)) = ((cnt s : Nat) : Int) := by
    rw [← cnt_parts s t, IntKind.wrap_i64]; have := cnt_le (s &&& t); have := cnt_le (notS s t); omega
  have e2 : IntKind.i64.wrap ((cnt (s ||| t) : Nat) + (cnt (s &&& t) : Nat)) = ((cnt s + cnt t : Nat) : Int) := by
    rw [← cnt_union s t, IntKind.wrap_i64]; have := cnt_le (s &&& t); have := cnt_le (s ||| t); omega
  have e3 : IntKind.i64.wrap ((cnt s : Nat) + (cnt t : Nat)) = ((cnt s + cnt t : Nat) : Int) := by
    rw [IntKind.wrap_i64]; have := cnt_le s; have := cnt_le t; omega
  refine region_b (fun W2 => (∀ o, W2.cell? ⟨w.heap.size, o, none⟩ = (nsA s)[o]?) ∧ (∀ o, W2.cell? ⟨w.heap.size + 1, o, none⟩ = (nsA t)[o]?) ∧ (∀ o, W2.cell? ⟨g1, o, none⟩ = (nsA (s &&& t))[o]?) ∧ (∀ o, W2.cell? ⟨g2, o, none⟩ = (nsA (notS s t))[o]?) ∧ w.heap.size + 2 ≤ W2.heap.size ∧ g1 < W2.heap.size ∧ g2 < W2.heap.size ∧ TabW W2 ∧ Below w.heap.size w W2) (by kernel_rfl) (by kernel_rfl) ?_ ?_
  · have k := below_four (below_four HB.out hB1 (.int .u64 (wn (s &&& t) 0 : Nat)) (.int .u64 (wn (s &&& t) 1 : Nat)) (.int .u64 (wn (s &&& t) 2 : Nat)) (.int .u64 (wn (s &&& t) 3 : Nat))) hB2 (.int .u64 (wn (notS s t) 0 : Nat)) (.int .u64 (wn (notS s t) 1 : Nat)) (.int .u64 (wn (notS s t) 2 : Nat)) (.int .u64 (wn (notS s t) 3 : Nat))
    exact ⟨fun o => (k.cell (p := ⟨w.heap.size, o, none⟩) (by show w.heap.size < W.heap.size; omega)).trans (H1.out o), fun o => (k.cell (p := ⟨w.heap.size + 1, o, none⟩) (by show w.heap.size + 1 < W.heap.size; omega)).trans (H2.out o), C1.out.cell, C2.out.cell, Nat.le_trans h3 k.size, C1.out.lt, C2.out.lt, H4.out.after k, H5.out.trans (k.mono (by omega))⟩
  clear C1 C2 HB H1 H2 H4 H5 r1 r2 p1 p2 p3 q1 q2 q3 hB1 hB2 hne w1 h3
  rintro W2 ⟨h1, h2, h3, h4, h5, h6, h7, h8, h9⟩
  have r1 := cells_on h1 (by omega)
  have r2 := cells_on h2 (by omega)
  have r3 := cells_on h3 h6
  have r4 := cells_on h4 h7
  have H8 := Lib.hid h8
  have H9 := Lib.hid h9
  clear h1 h2 h3 h4 h8 h9
  have f1 := parts_or s t
  have f2 := parts_and s t
  have z0 := wn_empty 0
  have z1 := wn_empty 1
  have z2 := wn_empty 2
  have z3 := wn_empty 3
  repeat (quiet_step (first | exact Calls.regrown_of (and_c _ _ _) | exact Calls.regrown_of (or_c _ _ _) | exact Calls.regrown_of (count_c _ _) | exact Calls.regrown_of (alive_c _ (H8.out.after (below_regrown _ _ _)))))
  refine wpQuiet_nil ?_
  intro w2 hb
  go_wp2
  go_ret
  exact ⟨rfl, below_then H9.out (Nat.le_trans (by omega) h5) hb⟩
end Go.Proofs.YtmhbblkihjmonaaDoor
