/- The laws BitsOf and BitsLists: their walks. -/
import Derived.Test.YtmhbblkihjmonaaDoorL2
set_option linter.unusedVariables false
namespace Go.Proofs.YtmhbblkihjmonaaDoor
open Go.RowKit Go.Sort

set_option maxHeartbeats 4000000 in
theorem bitsOf_w (A : Option Addr) (n c : Nat) (xs : List Int) (a b : Int) (hx : ∀ x ∈ xs, -9223372036854775808 ≤ x ∧ x ≤ 9223372036854775807) (ha : -9223372036854775808 ≤ a ∧ a ≤ 9223372036854775807) (hb : -9223372036854775808 ≤ b ∧ b ≤ 9223372036854775807)
    (w : World) (hR : ReadsI w A n xs) (hT : TabW w) : Calls Tryd.prog 5 #[.slice A n c, .int .i64 a, .int .i64 b] w fun e w' => e = .returned (.bool true) ∧ Below w.heap.size w w' := by
  have HT := Lib.hid hT
  have HR := Lib.hid hR
  clear hT hR
  by_cases h : 2000 < (n : Int)
  · go_enter Tryd.func5, Tryd.ntmps5
    go_wp2_with fail
    refine (alive_c _ HT.out).mono ?_
    rintro e w1 ⟨rfl, hb⟩
    go_wp2_with fail
    go_ret
    exact ⟨rfl, hb⟩
  · go_enter Tryd.func5, Tryd.ntmps5
    go_wp2_with fail
    refine (of_c A n c xs _ HR.out hx).mono ?_
    rintro e w1 ⟨rfl, hb1⟩
    have HL := Lib.hid hb1
    clear hb1
    go_wp2_with fail
    refine region_b (fun W2 => (∀ o, W2.cell? ⟨w1.heap.size, o, none⟩ = (nsA (ofL xs))[o]?) ∧ w1.heap.size < W2.heap.size ∧ ReadsI W2 A n xs ∧ TabW W2 ∧ Below w.heap.size w W2) (by kernel_rfl) (by kernel_rfl) ?_ ?_
    · have k := HL.out.alloc HL.out.size (.cells (nsA (ofL xs)) 24)
      exact ⟨(Blk.new _ _ _).cell, (Blk.new w1 24 (nsA (ofL xs))).lt, HR.out.below k, HT.out.after k, k⟩
    have hws := HL.out.size
    clear HR HT HL
    rintro W2 ⟨h1, h2, h3, h4, h5⟩
    have r1 := cells_on h1 h2
    have H3 := Lib.hid h3
    have H4 := Lib.hid h4
    have H5 := Lib.hid h5
    clear h1 h3 h4 h5
    repeat (quiet_step (first | exact Calls.regrown_of (rof_c _ _ _ xs _ (H3.out.below (below_regrown _ _ _))) | exact Calls.regrown_of (span_c _ _ _) | exact Calls.regrown_of (rspan_c _ _ _) | exact Calls.regrown_of (has_c _ _ _ ha.1 ha.2) | exact Calls.regrown_of (has_c _ _ _ hb.1 hb.2) | exact Calls.regrown_of (rhas_c _ _ _) | exact Calls.regrown_of (alive_c _ (H4.out.after (below_regrown _ _ _)))))
    refine wpQuiet_nil ?_
    intro w2 hb2
    go_wp2
    go_ret
    exact ⟨rfl, below_then H5.out (by omega) hb2⟩
end Go.Proofs.YtmhbblkihjmonaaDoor
