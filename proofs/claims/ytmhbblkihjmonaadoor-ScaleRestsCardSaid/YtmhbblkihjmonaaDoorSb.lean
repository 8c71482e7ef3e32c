/- Scale: one contract each for Decide and Calm; the law ScaleDecides. -/
import Derived.Test.YtmhbblkihjmonaaDoorSa
import Derived.Test.YtmhbblkihjmonaaDoorSs
set_option linter.unusedVariables false
namespace Go.Proofs.YtmhbblkihjmonaaDoor
open Go.RowKit Go.Sort

def dOn (v : Vw) : NS := if rightB v then onS v else emptyS
def dOff (v : Vw) : NS := if rightB v then offS v else emptyS
def dE (v : Vw) : Int := if rightB v then 0 else 1
theorem decide_any (v : Vw) (w : World) (hT : TabW w) : Calls Tryd.prog 40 #[viewV v] w fun e w' => e = .returned (.tuple #[nsV (dOn v), nsV (dOff v), .int .i64 (dE v)]) ∧ Below w.heap.size w w' := by
  unfold dOn dOff dE
  cases h : rightB v
  · exact decide_no v h w
  · exact decide_yes v h w hT
theorem rdecide_any (v : Vw) (w : World) : Calls Tryd.prog 42 #[viewV v] w fun e w' => e = .returned (.tuple #[nsV (dOn v), nsV (dOff v), .int .i64 (dE v)]) ∧ Below w.heap.size w w' := by
  unfold dOn dOff dE
  cases h : rightB v
  · exact rdecide_no v h w
  · exact rdecide_yes v h w
/-- How often it goes on. -/
noncomputable def calmN (v : Vw) : Nat := if h : rightB v = true then Classical.choose (rests h) else 0
theorem calmN_spec {v : Vw} (h : rightB v = true) : calmN v ≤ 1 + cnt v.off ∧ (∀ j, j < calmN v → restB (iterV j v) = false) ∧ restB (iterV (calmN v) v) = true := by
  have := Classical.choose_spec (rests h)
  unfold calmN
  rw [dif_pos h]
  exact this
theorem calmN_le (v : Vw) : calmN v ≤ 257 := by
  by_cases h : rightB v = true
  · have := (calmN_spec h).1; have := cnt_le v.off; omega
  · unfold calmN; rw [dif_neg h]; omega
theorem calm_any (v : Vw) (w : World) (hT : TabW w) : Calls Tryd.prog 47 #[viewV v] w fun e w' => e = .returned (.tuple #[.int .i64 (calmN v : Nat), .int .i64 (dE v)]) ∧ Below w.heap.size w w' := by
  cases h : rightB v
  · have e1 : calmN v = 0 := by unfold calmN; rw [dif_neg (by rw [h]; simp)]
    have e2 : dE v = 1 := by unfold dE; rw [h]; rfl
    rw [e1, e2]
    exact calm_no v h w
  · have e2 : dE v = 0 := by unfold dE; rw [h]; rfl
    rw [e2]
    exact calm_yes v h (calmN v) (by have := calmN_le v; omega) (calmN_spec h).2.1 (calmN_spec h).2.2 w hT
theorem rcalm_any (v : Vw) (w : World) (hT : TabW w) : Calls Tryd.prog 48 #[viewV v] w fun e w' => e = .returned (.tuple #[.int .i64 (calmN v : Nat), .int .i64 (dE v)]) ∧ Below w.heap.size w w' := by
  cases h : rightB v
  · have e1 : calmN v = 0 := by unfold calmN; rw [dif_neg (by rw [h]; simp)]
    have e2 : dE v = 1 := by unfold dE; rw [h]; rfl
    rw [e1, e2]
    exact rcalm_no v h w
  · have e2 : dE v = 0 := by unfold dE; rw [h]; rfl
    rw [e2]
    exact rcalm_yes v h (calmN v) (by have := calmN_le v; omega) (calmN_spec h).2.1 (calmN_spec h).2.2 w hT
set_option maxRecDepth 100000 in
set_option maxHeartbeats 8000000 in
theorem scaleDecides_w (v : Vw) (w : World) (hT : TabW w) : Calls Tryd.prog 9 #[viewV v] w fun e w' => e = .returned (.bool true) ∧ Below w.heap.size w w' := by
  have HS0 := Lib.hid ((St.nil hT).alloc 43 (viewA v))
  clear hT
  go_enter Tryd.func9, Tryd.ntmps9
  go_wp2_with (refine wpList_load_at rfl 43 _ rfl (HS0.out.at_ 0 rfl) 19 (viewV v) rfl _ Tryd.underlying43 rfl (by kernel_rfl) (Nat.le_of_ble_eq_true rfl) rfl ?_)
  refine (theirs_c v _).mono ?_
  rintro e W1 ⟨rfl, hb⟩
  have HS1 := Lib.hid (HS0.out.after hb)
  clear hb HS0
  go_wp2_with fail
  refine (decide_any v _ HS1.out.tab).mono ?_
  rintro e W2 ⟨rfl, hb⟩
  have HS2 := Lib.hid (HS1.out.after hb)
  clear hb HS1
  go_wp2_with (first
    | (refine wpList_alloc_at rfl (some 3) rfl 24 z4 (by kernel_rfl) ?_; intro g3 W3 hb hB hg; have HS3 := Lib.hid (HS2.out.new hb hB hg); clear hb hB hg HS2)
    | (refine wpList_alloc_at rfl (some 4) rfl 24 z4 (by kernel_rfl) ?_; intro g4 W4 hb hB hg; have HS4 := Lib.hid (HS3.out.new hb hB hg); clear hb hB hg HS3)
    | (refine wpList_store_at rfl 24 _ _ rfl (HS4.out.at_ 1 rfl) (nsV (dOn v)) rfl rfl (by kernel_rfl) (Nat.le_of_ble_eq_true rfl) (by kernel_rfl) ?_; intro W5 hB hP; have HS5 := Lib.hid (HS4.out.put 1 rfl (new := nsA (dOn v)) hB hP); clear hB hP HS4)
    | (refine wpList_store_at rfl 24 _ _ rfl (HS5.out.at_ 2 rfl) (nsV (dOff v)) rfl rfl (by kernel_rfl) (Nat.le_of_ble_eq_true rfl) (by kernel_rfl) ?_; intro W6 hB hP; have HS6 := Lib.hid (HS5.out.put 2 rfl (new := nsA (dOff v)) hB hP); clear hB hP HS5)
    | (refine wpList_load_at rfl 43 _ rfl (HS6.out.at_ 0 rfl) 19 (viewV v) rfl _ Tryd.underlying43 rfl (by kernel_rfl) (Nat.le_of_ble_eq_true rfl) rfl ?_))
  refine (rdecide_any v _).mono ?_
  rintro e W7 ⟨rfl, hb⟩
  have HS7 := Lib.hid (HS6.out.after hb)
  clear hb HS6
  go_wp2_with (first
    | (refine wpList_alloc_at rfl (some 6) rfl 24 z4 (by kernel_rfl) ?_; intro g8 W8 hb hB hg; have HS8 := Lib.hid (HS7.out.new hb hB hg); clear hb hB hg HS7)
    | (refine wpList_alloc_at rfl (some 7) rfl 24 z4 (by kernel_rfl) ?_; intro g9 W9 hb hB hg; have HS9 := Lib.hid (HS8.out.new hb hB hg); clear hb hB hg HS8)
    | (refine wpList_store_at rfl 24 _ _ rfl (HS9.out.at_ 3 rfl) (nsV (dOn v)) rfl rfl (by kernel_rfl) (Nat.le_of_ble_eq_true rfl) (by kernel_rfl) ?_; intro W10 hB hP; have HS10 := Lib.hid (HS9.out.put 3 rfl (new := nsA (dOn v)) hB hP); clear hB hP HS9)
    | (refine wpList_store_at rfl 24 _ _ rfl (HS10.out.at_ 4 rfl) (nsV (dOff v)) rfl rfl (by kernel_rfl) (Nat.le_of_ble_eq_true rfl) (by kernel_rfl) ?_; intro W11 hB hP; have HS11 := Lib.hid (HS10.out.put 4 rfl (new := nsA (dOff v)) hB hP); clear hB hP HS10))
  refine region_b (St w _) (by kernel_rfl) (by kernel_rfl) HS11.out ?_
  clear HS11
  intro W12 hS
  have q1 := hS.on 1 rfl
  have q2 := hS.on 2 rfl
  have q3 := hS.on 3 rfl
  have q4 := hS.on 4 rfl
  have HS12 := Lib.hid hS
  clear hS
  repeat (first | (refine wpQuiet_load_at (by kernel_rfl) 43 _ rfl (HS12.out.at_ 0 rfl) 19 (viewV v) rfl _ Tryd.underlying43 rfl (by kernel_rfl) (Nat.le_of_ble_eq_true rfl) rfl ?_) | go_big_quiet_step (first | with_reducible exact Calls.regrown_of (theirs_c v _) | with_reducible exact Calls.regrown_of (right_c v _) | with_reducible exact Calls.regrown_of (rright_c v _) | with_reducible exact Calls.regrown_of (alive19 _ (HS12.out.tabOn _ _))) | quiet_step (first | with_reducible exact Calls.regrown_of (theirs_c v _) | with_reducible exact Calls.regrown_of (right_c v _) | with_reducible exact Calls.regrown_of (rright_c v _) | with_reducible exact Calls.regrown_of (alive19 _ (HS12.out.tabOn _ _))))
  refine wpQuiet_nil ?_
  intro W13 hb
  have HS13 := Lib.hid (HS12.out.after hb)
  clear hb HS12 q1 q2 q3 q4
  go_wp2
  go_ret
  exact ⟨rfl, HS13.out.below⟩
end Go.Proofs.YtmhbblkihjmonaaDoor
