/- Scale: the law ScaleGoes: its walk. -/
import Derived.Test.YtmhbblkihjmonaaDoorSd
set_option linter.unusedVariables false
namespace Go.Proofs.YtmhbblkihjmonaaDoor
open Go.RowKit Go.Sort

set_option maxRecDepth 100000 in
set_option maxHeartbeats 8000000 in
theorem scaleGoes_w (v : Vw) (on off : NS) (w : World) (hT : TabW w) : Calls Tryd.prog 13 #[viewV v, nsV on, nsV off] w fun e w' => e = .returned (.bool true) ∧ Below w.heap.size w w' := by
  have HS0 := Lib.hid ((((St.nil hT).alloc 43 (viewA v)).alloc' (w.heap.size + 1) 24 (nsA on) (by simp)).alloc' (w.heap.size + 1 + 1) 24 (nsA off) (by simp))
  clear hT
  have hn := calmN_le v
  go_enter Tryd.func13, Tryd.ntmps13
  go_wp2_with (refine wpList_load_at rfl 43 _ rfl (HS0.out.at_ 0 rfl) 19 (viewV v) rfl _ Tryd.underlying43 rfl (by kernel_rfl) (Nat.le_of_ble_eq_true rfl) rfl ?_)
  refine (theirs_c v _).mono ?_
  rintro e W1 ⟨rfl, hb⟩
  have HS1 := Lib.hid (HS0.out.after hb)
  clear hb HS0
  go_wp2_with fail
  refine (calm_any v _ HS1.out.tab).mono ?_
  rintro e W2 ⟨rfl, hb⟩
  have HS2 := Lib.hid (HS1.out.after hb)
  clear hb HS1
  go_wp2_with (refine wpList_load_at rfl 43 _ rfl (HS2.out.at_ 0 rfl) 19 (viewV v) rfl _ Tryd.underlying43 rfl (by kernel_rfl) (Nat.le_of_ble_eq_true rfl) rfl ?_)
  refine (rcalm_any v _ HS2.out.tab).mono ?_
  rintro e W3 ⟨rfl, hb⟩
  have HS3 := Lib.hid (HS2.out.after hb)
  clear hb HS2
  go_wp2_with fail
  refine region_b (St w _) (by kernel_rfl) (by kernel_rfl) HS3.out ?_
  clear HS3
  intro W4 hS
  have q1 := hS.on 1 rfl
  have q2 := hS.on 2 rfl
  have HS4 := Lib.hid hS
  clear hS
  repeat (first | (refine wpQuiet_load_at (by kernel_rfl) 43 _ rfl (HS4.out.at_ 0 rfl) 19 (viewV v) rfl _ Tryd.underlying43 rfl (by kernel_rfl) (Nat.le_of_ble_eq_true rfl) rfl ?_) | go_big_quiet_step (first | with_reducible exact Calls.regrown_of (theirs_c v _) | with_reducible exact Calls.regrown_of (after_c v on off _) | with_reducible exact Calls.regrown_of (ours_c (afterV v on off) _) | with_reducible exact Calls.regrown_of (rafter_c v on off _) | with_reducible exact Calls.regrown_of (alive19 _ (HS4.out.tabOn _ _))) | quiet_step (first | with_reducible exact Calls.regrown_of (theirs_c v _) | with_reducible exact Calls.regrown_of (after_c v on off _) | with_reducible exact Calls.regrown_of (ours_c (afterV v on off) _) | with_reducible exact Calls.regrown_of (rafter_c v on off _) | with_reducible exact Calls.regrown_of (alive19 _ (HS4.out.tabOn _ _))))
  refine wpQuiet_nil ?_
  intro W5 hb
  have HS5 := Lib.hid (HS4.out.after hb)
  clear hb HS4 q1 q2
  go_wp2
  go_ret
  exact ⟨rfl, HS5.out.below⟩

end Go.Proofs.YtmhbblkihjmonaaDoor
