/- Prio: the law PrioPoints: its walk. Printed by gen_pa.py. -/
import Derived.Test.YtmilcgfcmeahgaaP9
set_option linter.unusedVariables false
namespace Go.Proofs.Ytmilcgfcmeahgaa
open Go.RowKit Go.Sort

set_option maxRecDepth 100000 in
set_option maxHeartbeats 4000000 in
theorem prioPoints_w (f : Fa) (v : We) (now : Int) (w : World) : Calls Try.prog 3 #[fV f, wV v, .int .i64 now] w fun e w' => e = .returned (.bool true) ∧ Below w.heap.size w w' := by
  go_enter Try.func3, Try.ntmps3
  have HS0 := Lib.hid (Bs.nil w)
  go_wp2_with (first
    | (refine wpList_alloc_b rfl (some 3) rfl 23 (fA f) (by kernel_rfl) ?_; intro g1 W1 hb hB hg; have HS1 := Lib.hid (HS0.out.new hb hB hg); clear hb hB hg HS0)
    | (refine wpList_alloc_b rfl (some 4) rfl 25 (wA v) (by kernel_rfl) ?_; intro g2 W2 hb hB hg; have HS2 := Lib.hid (HS1.out.new hb hB hg); clear hb hB hg HS1))
  refine region_b (Bs w _) (by kernel_rfl) (by kernel_rfl) HS2.out ?_
  clear HS2
  intro W3 hS
  have HS3 := Lib.hid hS
  clear hS
  repeat (first | (refine wpQuiet_load_b (by kernel_rfl) 23 _ rfl (HS3.out.at_ 0 rfl) 6 (fV f) rfl _ Try.underlying23 rfl (by kernel_rfl) (Nat.le_of_ble_eq_true rfl) rfl ?_) | (refine wpQuiet_load_b (by kernel_rfl) 25 _ rfl (HS3.out.at_ 1 rfl) 6 (wV v) rfl _ Try.underlying25 rfl (by kernel_rfl) (Nat.le_of_ble_eq_true rfl) rfl ?_) | go_big_quiet_step (first | with_reducible exact Calls.regrown_of (facts_c f _) | with_reducible exact Calls.regrown_of (weights_c v _) | with_reducible exact Calls.regrown_of (points_c f v now _)) | quiet_step (first | with_reducible exact Calls.regrown_of (facts_c f _) | with_reducible exact Calls.regrown_of (weights_c v _) | with_reducible exact Calls.regrown_of (points_c f v now _)))
  refine wpQuiet_nil ?_
  intro W4 hb
  have HS4 := Lib.hid (HS3.out.after hb)
  clear hb HS3
  go_wp2_with (first
    | (refine wpList_load_at rfl 23 _ rfl (HS4.out.at_ 0 rfl) 6 (fV f) rfl _ Try.underlying23 rfl (by kernel_rfl) (Nat.le_of_ble_eq_true rfl) rfl ?_)
    | (refine wpList_load_at rfl 25 _ rfl (HS4.out.at_ 1 rfl) 6 (wV v) rfl _ Try.underlying25 rfl (by kernel_rfl) (Nat.le_of_ble_eq_true rfl) rfl ?_))
  refine (rpoints_c f v now _).mono ?_
  rintro e W5 ⟨rfl, hb⟩
  have HS5 := Lib.hid (HS4.out.after hb)
  clear hb HS4
  go_wp2_with fail
  refine region_b (Bs w _) (by kernel_rfl) (by kernel_rfl) HS5.out ?_
  clear HS5
  intro W6 hS
  have HS6 := Lib.hid hS
  clear hS
  repeat (first | (refine wpQuiet_load_b (by kernel_rfl) 23 _ rfl (HS6.out.at_ 0 rfl) 6 (fV f) rfl _ Try.underlying23 rfl (by kernel_rfl) (Nat.le_of_ble_eq_true rfl) rfl ?_) | (refine wpQuiet_load_b (by kernel_rfl) 23 _ rfl (HS6.out.at_ 0 rfl) 6 (fV f) rfl _ Try.underlying23 rfl (by kernel_rfl) (Nat.le_of_ble_eq_true rfl) rfl ?_) | go_big_quiet_step (first | with_reducible exact Calls.regrown_of (facts_c f _) | with_reducible exact Calls.regrown_of (right_c f _) | with_reducible exact Calls.regrown_of (rright_c f _) | with_reducible exact Calls.regrown_of (alive_c _)) | quiet_step (first | with_reducible exact Calls.regrown_of (facts_c f _) | with_reducible exact Calls.regrown_of (right_c f _) | with_reducible exact Calls.regrown_of (rright_c f _) | with_reducible exact Calls.regrown_of (alive_c _)))
  refine wpQuiet_nil ?_
  intro W7 hb
  have HS7 := Lib.hid (HS6.out.after hb)
  clear hb HS6
  go_wp2
  go_ret
  exact ⟨rfl, HS7.out.below⟩
end Go.Proofs.Ytmilcgfcmeahgaa
