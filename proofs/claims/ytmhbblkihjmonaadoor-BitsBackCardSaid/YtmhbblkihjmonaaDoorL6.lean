/- The law BitsBack: its walk. -/
import Derived.Test.YtmhbblkihjmonaaDoorL4
set_option linter.unusedVariables false
namespace Go.Proofs.YtmhbblkihjmonaaDoor
open Go.RowKit Go.Sort

theorem tmod_range (b : Int) : -255 ≤ b.tmod 256 ∧ b.tmod 256 ≤ 255 := by
  have h1 := Int.tmod_lt_of_pos b (show (0 : Int) < 256 by decide)
  have h2 := Int.lt_tmod_of_pos b (show (0 : Int) < 256 by decide)
  omega
set_option maxHeartbeats 4000000 in
theorem bitsBack_w (s : NS) (k : Int) (hk : -9223372036854775808 ≤ k ∧ k ≤ 9223372036854775807) (w : World) (hT : TabW w) : Calls Tryd.prog 12 #[nsV s, .int .i64 k] w fun e w' => e = .returned (.bool true) ∧ Below w.heap.size w w' := by
  have HT := Lib.hid hT
  clear hT
  have hx : ∀ x ∈ lst s, -9223372036854775808 ≤ x ∧ x ≤ 9223372036854775807 := fun x hx => by have := lst_range hx; omega
  have f1 := ofL_lst s
  go_enter Tryd.func12, Tryd.ntmps12
  go_wp2_with fail
  go_region_held3 (fun W2 => (∀ o, W2.cell? ⟨w.heap.size, o, none⟩ = (nsA s)[o]?) ∧ w.heap.size + 1 ≤ W2.heap.size ∧ TabW W2 ∧ Below w.heap.size w W2)
    (first | exact keepOne ‹_› hb (by omega) (by omega) | exact ⟨((Blk.new' (t := 24) rfl).drew).cell, by simp, (HT.out.alloc _), ((Below.refl _ _).alloc (by simp) _).drew⟩)
    (first
      | ((with_reducible refine (list_cc s _ (And.left (And.right (And.right ‹_›)))).mono ?_); rintro e w1 ⟨A1, c1, rfl, hR1, hb⟩)
      | ((with_reducible refine (of_c A1 _ c1 _ _ hR1 hx).mono ?_); rw [f1]; rintro e w1 ⟨rfl, hb⟩))
  obtain ⟨h1, h2, h3, h4⟩ : (∀ o, w1.cell? ⟨w.heap.size, o, none⟩ = (nsA s)[o]?) ∧ w.heap.size + 1 ≤ w1.heap.size ∧ TabW w1 ∧ Below w.heap.size w w1 := ‹_›
  obtain ⟨b, hbk⟩ : ∃ b, b = k.tmod 256 := ⟨_, rfl⟩
  obtain ⟨b0, b1⟩ : -255 ≤ b ∧ b ≤ 255 := hbk ▸ tmod_range k
  have e1 : k.tmod 256 = b := hbk.symm
  have e2 : IntKind.i64.wrap (-b) = -b := by rw [IntKind.wrap_i64]; omega
  have e2' : IntKind.i64.wrap b = b := by rw [IntKind.wrap_i64]; omega
  have HT1 := Lib.hid h3
  have HL1 := Lib.hid h4
  have H1 := Lib.hid h1
  clear hR1 hb h3 h4 hbk
  go_wp2_with fail
  refine (move_c s b _).mono ?_
  rintro e w2 ⟨rfl, hb⟩
  have HT2 := Lib.hid (HT1.out.after hb)
  have HL2 := Lib.hid (below_then HL1.out (by omega) hb)
  have h2' : ∀ o, w2.cell? ⟨w.heap.size, o, none⟩ = (nsA s)[o]? := fun o => (hb.cell (p := ⟨w.heap.size, o, none⟩) (by dsimp only; omega)).trans (H1.out o)
  have H2 := Lib.hid h2'
  have hs2 := hb.size
  clear hb h1 h2'
  go_wp2_with fail
  refine (move_c (moveS s b) (-b) _).mono ?_
  rintro e w3 ⟨rfl, hb⟩
  have HT3 := Lib.hid (HT2.out.after hb)
  have HL3 := Lib.hid (below_then HL2.out (by omega) hb)
  have h2' : ∀ o, w3.cell? ⟨w.heap.size, o, none⟩ = (nsA s)[o]? := fun o => (hb.cell (p := ⟨w.heap.size, o, none⟩) (by dsimp only; omega)).trans (H2.out o)
  have H3 := Lib.hid h2'
  have hs3 := hb.size
  clear hb h2'
  go_wp2_with fail
  refine region_bl 9 10 (fun _ => .cells #[.int .u64 0, .int .u64 0, .int .u64 0, .int .u64 0] 24) (fun W2 => (∀ o, W2.cell? ⟨w.heap.size, o, none⟩ = (nsA s)[o]?) ∧ (∀ o, W2.cell? ⟨w3.heap.size, o, none⟩ = (nsA (moveS (moveS s b) (-b)))[o]?) ∧ w3.heap.size < W2.heap.size ∧ TabW W2 ∧ Below w.heap.size w W2) (by kernel_rfl) (by kernel_rfl) (by decide) ?_ (fun i h1 h2 o ho a w => ?_) ?_
  · have k3 := (Below.refl w3.heap.size w3).alloc (Nat.le_refl _) (.cells (nsA (moveS (moveS s b) (-b))) 24)
    exact ⟨fun o => (k3.cell (p := ⟨w.heap.size, o, none⟩) (by dsimp only; omega)).trans (H3.out o), (Blk.new _ _ _).cell, (Blk.new w3 24 (nsA (moveS (moveS s b) (-b)))).lt, HT3.out.after k3, HL3.out.alloc (by omega) _⟩
  · obtain rfl : i = 9 := by omega
    simp only [List.getElem?_toArray, List.getElem?_cons_succ, List.getElem?_cons_zero, Option.some.injEq] at ho
    subst ho
    refine ⟨rfl, ?_⟩
    go_simp
  clear HT1 HT2 HT3 HL1 HL2 HL3 H1 H2 H3
  rintro W ⟨h1, h2, h3, h4, h5⟩
  have r1 := cells_on h1 (by omega)
  have H1 := Lib.hid h1
  have H2 := Lib.hid h2
  have H4 := Lib.hid h4
  have H5 := Lib.hid h5
  clear h1 h2 h4 h5
  simp only [List.take_succ_cons, List.take_zero, List.drop_succ_cons, List.drop_zero]
  obtain ⟨lo, hlo⟩ : ∃ lo : Int, lo = if b < 0 then -b else 0 := ⟨_, rfl⟩
  obtain ⟨mm, hmm⟩ : ∃ mm : Int, mm = if 0 < b then b else 0 := ⟨_, rfl⟩
  have q1 : (if b < 0 then -b else 0) = lo := hlo.symm
  have q2 : (if 0 < b then b else 0) = mm := hmm.symm
  have q3 : IntKind.i64.wrap (255 - mm) = 255 - mm := by rw [IntKind.wrap_i64, hmm]; split <;> omega
  have back : s &&& spanS lo (255 - mm) = moveS (moveS s b) (-b) := (back_span s b lo (255 - mm) b0 b1 (by rw [hlo]; split <;> split <;> omega) (by rw [hmm])).symm
  have hand : ∀ w, Calls Tryd.prog 17 #[nsV s, nsV (spanS lo (255 - mm))] w fun e w' => e = .returned (nsV (moveS (moveS s b) (-b))) ∧ Below w.heap.size w w' := fun w => by rw [← back]; exact and_c _ _ _
  have HA := Lib.hid hand
  clear hlo hmm back hand
  repeat (refine wpG_step (fun K hK => ?_); go_simp; first | (refine hK _ ?_; clear hK K) | (apply Exists.intro; refine ⟨fun _ => ?_, hK _ ?_⟩; (first | exact calls_on (HA.out _) | exact calls_on (span_c _ _ _)); clear hK K))
  refine wpG_nil ?_
  intro g1 hg1 w4 hb hA
  have bb : Blk w4 g1 24 #[.int .u64 0, .int .u64 0, .int .u64 0, .int .u64 0] := laid_one hA
  obtain ⟨p1, p2, p3⟩ := bb.rules
  have hB1 : W.heap.size ≤ g1 := hg1.2
  have cc := bb.four (.int .u64 (wn (moveS (moveS s b) (-b)) 0 : Nat)) (.int .u64 (wn (moveS (moveS s b) (-b)) 1 : Nat)) (.int .u64 (wn (moveS (moveS s b) (-b)) 2 : Nat)) (.int .u64 (wn (moveS (moveS s b) (-b)) 3 : Nat))
  have kk := below_four hb hB1 (.int .u64 (wn (moveS (moveS s b) (-b)) 0 : Nat)) (.int .u64 (wn (moveS (moveS s b) (-b)) 1 : Nat)) (.int .u64 (wn (moveS (moveS s b) (-b)) 2 : Nat)) (.int .u64 (wn (moveS (moveS s b) (-b)) 3 : Nat))
  have n1 : ∀ o, (((((w4.setCell ⟨g1, 0, none⟩ (.int .u64 (wn (moveS (moveS s b) (-b)) 0 : Nat))).setCell ⟨g1, 1, none⟩ (.int .u64 (wn (moveS (moveS s b) (-b)) 1 : Nat))).setCell ⟨g1, 2, none⟩ (.int .u64 (wn (moveS (moveS s b) (-b)) 2 : Nat))).setCell ⟨g1, 3, none⟩ (.int .u64 (wn (moveS (moveS s b) (-b)) 3 : Nat)))).cell? ⟨w3.heap.size, o, none⟩ = (nsA (moveS (moveS s b) (-b)))[o]? := fun o => (kk.cell (p := ⟨w3.heap.size, o, none⟩) (by dsimp only; omega)).trans (H2.out o)
  have n2 := cc.cell
  have HT5 := Lib.hid (H4.out.after kk)
  have HL5 := Lib.hid (below_then H5.out (by omega) kk)
  clear bb hA hg1 cc kk hb HA H1 H2 H4 H5 r1
  go_wp2_with fail
  refine (alive_c _ HT5.out).mono ?_
  rintro e w6 ⟨rfl, hb⟩
  have HL6 := Lib.hid (below_then HL5.out HL5.out.size hb)
  clear hb n1 n2
  go_wp2
  go_ret
  exact ⟨rfl, HL6.out⟩
end Go.Proofs.YtmhbblkihjmonaaDoor
