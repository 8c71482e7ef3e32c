/- Scale: a view; Right; the lowest and the highest ones. -/
import Derived.Test.YtmhbblkihjmonaaDoorL3
set_option linter.unusedVariables false
namespace Go.Proofs.YtmhbblkihjmonaaDoor
open Go.RowKit Go.Sort

structure Vw where
  off : NS
  pow : NS
  old : NS
  wnt : NS
  mn : Int
  cp : Int
  rt : Int
abbrev viewA (v : Vw) : Array Value := #[.int .u64 (wn v.off 0 : Nat), .int .u64 (wn v.off 1 : Nat), .int .u64 (wn v.off 2 : Nat), .int .u64 (wn v.off 3 : Nat),
  .int .u64 (wn v.pow 0 : Nat), .int .u64 (wn v.pow 1 : Nat), .int .u64 (wn v.pow 2 : Nat), .int .u64 (wn v.pow 3 : Nat),
  .int .u64 (wn v.old 0 : Nat), .int .u64 (wn v.old 1 : Nat), .int .u64 (wn v.old 2 : Nat), .int .u64 (wn v.old 3 : Nat),
  .int .u64 (wn v.wnt 0 : Nat), .int .u64 (wn v.wnt 1 : Nat), .int .u64 (wn v.wnt 2 : Nat), .int .u64 (wn v.wnt 3 : Nat),
  .int .i64 v.mn, .int .i64 v.cp, .int .i64 v.rt]
abbrev viewV (v : Vw) : Value := .agg (viewA v)
def rightB (v : Vw) : Bool := decide (0 ≤ v.mn) && decide (v.mn ≤ v.cp) && decide (1 ≤ v.cp) && decide (v.cp ≤ 256) && decide (1 ≤ v.rt) && decide (v.rt ≤ 1000000) && decide (v.off &&& v.pow = emptyS) && decide (notS v.old v.pow = emptyS)
theorem wn_zero_iff (s : NS) : ((wn s 0 : Int) == 0 && ((wn s 1 : Int) == 0 && ((wn s 2 : Int) == 0 && (wn s 3 : Int) == 0))) = decide (s = emptyS) := by
  by_cases h : s = emptyS
  · subst h; simp [wn_empty]
  · rw [decide_eq_false h]
    cases e : ((wn s 0 : Int) == 0 && ((wn s 1 : Int) == 0 && ((wn s 2 : Int) == 0 && (wn s 3 : Int) == 0)))
    · rfl
    · exact absurd (ns_ext_w fun k hk => by
        rw [wn_empty]
        simp at e
        rcases (show k = 0 ∨ k = 1 ∨ k = 2 ∨ k = 3 by omega) with rfl | rfl | rfl | rfl <;> omega) h
theorem right_no (v : Vw) (h : v.mn < 0 ∨ v.cp < v.mn ∨ v.cp < 1 ∨ 256 < v.cp ∨ v.rt < 1 ∨ 1000000 < v.rt) : Ending.returned (Value.bool false) = Ending.returned (Value.bool (rightB v)) := by
  have e : rightB v = false := by
    unfold rightB
    rw [Bool.and_eq_false_iff]
    left
    rw [Bool.and_eq_false_iff]
    left
    simp only [← Bool.decide_and]
    exact decide_eq_false (by omega)
  rw [e]
theorem right_is (v : Vw) (h : ¬ (v.mn < 0 ∨ v.cp < v.mn ∨ v.cp < 1 ∨ 256 < v.cp ∨ v.rt < 1 ∨ 1000000 < v.rt)) : rightB v = (decide (v.off &&& v.pow = emptyS) && decide (notS v.old v.pow = emptyS)) := by
  have e : (decide (0 ≤ v.mn) && decide (v.mn ≤ v.cp) && decide (1 ≤ v.cp) && decide (v.cp ≤ 256) && decide (1 ≤ v.rt) && decide (v.rt ≤ 1000000)) = true := by
    simp only [← Bool.decide_and]
    exact decide_eq_true (by omega)
  unfold rightB
  rw [e, Bool.true_and]
set_option maxHeartbeats 4000000 in
theorem right_c (v : Vw) (w : World) : Calls Tryd.prog 43 #[viewV v] w fun e w' => e = .returned (.bool (rightB v)) ∧ Below w.heap.size w w' := by
  have hB := Blk.new w 47 (viewA v)
  obtain ⟨r1, r2, r3⟩ := hB.rules
  have HL := Lib.hid ((Below.refl w.heap.size w).alloc (Nat.le_refl _) (.cells (viewA v) 47))
  clear hB
  by_cases h1 : 0 ≤ v.mn
  case neg =>
    go_enter Tryd.func43, Tryd.ntmps43
    go_wp2; go_ret; exact ⟨right_no v (by omega), HL.out⟩
  by_cases h2 : v.mn ≤ v.cp
  case neg =>
    go_enter Tryd.func43, Tryd.ntmps43
    go_wp2; go_ret; exact ⟨right_no v (by omega), HL.out⟩
  by_cases h3 : 1 ≤ v.cp
  case neg =>
    go_enter Tryd.func43, Tryd.ntmps43
    go_wp2; go_ret; exact ⟨right_no v (by omega), HL.out⟩
  by_cases h4 : v.cp ≤ 256
  case neg =>
    go_enter Tryd.func43, Tryd.ntmps43
    go_wp2; go_ret; exact ⟨right_no v (by omega), HL.out⟩
  by_cases h5 : 1 ≤ v.rt
  case neg =>
    go_enter Tryd.func43, Tryd.ntmps43
    go_wp2; go_ret; exact ⟨right_no v (by omega), HL.out⟩
  by_cases h6 : v.rt ≤ 1000000
  case neg =>
    go_enter Tryd.func43, Tryd.ntmps43
    go_wp2; go_ret; exact ⟨right_no v (by omega), HL.out⟩
  rw [right_is v (by omega)]
  go_enter Tryd.func43, Tryd.ntmps43
  go_wp2_with fail
  refine (and_c v.off v.pow _).mono ?_
  rintro e w1 ⟨rfl, hb⟩
  have hz := wn_zero_iff (v.off &&& v.pow)
  have hB := (Blk.new w 47 (viewA v)).after hb
  have HL1 := Lib.hid (below_then HL.out (by simp) hb)
  obtain ⟨s1, s2, s3⟩ := hB.rules
  clear hb hB r1 r2
  by_cases h7 : v.off &&& v.pow = emptyS
  case neg =>
    rw [decide_eq_false h7] at hz
    go_wp2; go_ret; exact ⟨by simp [h7], HL1.out⟩
  rw [decide_eq_true h7] at hz
  have z0 := wn_empty 0
  have z1 := wn_empty 1
  have z2 := wn_empty 2
  have z3 := wn_empty 3
  go_wp2_with fail
  refine (not_c v.old v.pow _).mono ?_
  rintro e w2 ⟨rfl, hb⟩
  have HL2 := Lib.hid (below_then HL1.out HL1.out.size hb)
  have hz2 := wn_zero_iff (notS v.old v.pow)
  clear hb
  go_wp2; go_ret
  rw [decide_eq_true h7, Bool.true_and]
  exact ⟨by rw [← hz2]; simp, HL2.out⟩
end Go.Proofs.YtmhbblkihjmonaaDoor
