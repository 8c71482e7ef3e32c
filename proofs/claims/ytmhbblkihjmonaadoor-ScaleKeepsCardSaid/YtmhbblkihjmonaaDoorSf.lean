/- Scale: the law ScaleKeeps: its walk. -/
import Derived.Test.YtmhbblkihjmonaaDoorSd
set_option linter.unusedVariables false
namespace Go.Proofs.YtmhbblkihjmonaaDoor
open Go.RowKit Go.Sort
set_option maxRecDepth 100000 in
set_option maxHeartbeats 8000000 in
theorem scaleKeeps_no (v : Vw) (hr : rightB v = false) (w : World) (hT : TabW w) : Calls Tryd.prog 10 #[viewV v] w fun e w' => e = .returned (.bool true) ∧ Below w.heap.size w w' := by
  have HS0 := Lib.hid ((St.nil hT).alloc 43 (viewA v))
  clear hT
  go_enter Tryd.func10, Tryd.ntmps10
  go_wp2_with (refine wpList_load_at rfl 43 _ rfl (HS0.out.at_ 0 rfl) 19 (viewV v) rfl _ Tryd.underlying43 rfl (by kernel_rfl) (Nat.le_of_ble_eq_true rfl) rfl ?_)
  refine (theirs_c v _).mono ?_
  rintro e W1 ⟨rfl, hb⟩
  have HS1 := Lib.hid (HS0.out.after hb)
  clear hb HS0
  go_wp2_with fail
  refine (decide_no v hr _).mono ?_
  rintro e W2 ⟨rfl, hb⟩
  have HS2 := Lib.hid (HS1.out.after hb)
  clear hb HS1
  go_wp2_with (first
    | (refine wpList_alloc_at rfl (some 3) rfl 24 z4 (by kernel_rfl) ?_; intro g3 W3 hb hB hg; have HS3 := Lib.hid (HS2.out.new hb hB hg); clear hb hB hg HS2)
    | (refine wpList_alloc_at rfl (some 4) rfl 24 z4 (by kernel_rfl) ?_; intro g4 W4 hb hB hg; have HS4 := Lib.hid (HS3.out.new hb hB hg); clear hb hB hg HS3)
    | (refine wpList_store_at rfl 24 _ _ rfl (HS4.out.at_ 1 rfl) (nsV emptyS) rfl rfl (by kernel_rfl) (Nat.le_of_ble_eq_true rfl) (by kernel_rfl) ?_; intro W5 hB hP; have HS5 := Lib.hid (HS4.out.put 1 rfl (new := nsA emptyS) hB hP); clear hB hP HS4)
    | (refine wpList_store_at rfl 24 _ _ rfl (HS5.out.at_ 2 rfl) (nsV emptyS) rfl rfl (by kernel_rfl) (Nat.le_of_ble_eq_true rfl) (by kernel_rfl) ?_; intro W6 hB hP; have HS6 := Lib.hid (HS5.out.put 2 rfl (new := nsA emptyS) hB hP); clear hB hP HS5))
  refine (alive19 _ HS6.out.tab).mono ?_
  rintro e W7 ⟨rfl, hb⟩
  have HS7 := Lib.hid (HS6.out.after hb)
  clear hb HS6
  go_wp2
  go_ret
  exact ⟨rfl, HS7.out.below⟩
set_option maxRecDepth 100000 in
set_option maxHeartbeats 8000000 in
theorem scaleKeeps_yes (v : Vw) (hr : rightB v = true) (w : World) (hT : TabW w) : Calls Tryd.prog 10 #[viewV v] w fun e w' => e = .returned (.bool true) ∧ Below w.heap.size w w' := by
  have HS0 := Lib.hid ((St.nil hT).alloc 43 (viewA v))
  clear hT
  have HK3 := Lib.hid (law_keep3 hr)
  go_enter Tryd.func10, Tryd.ntmps10
  go_wp2_with (refine wpList_load_at rfl 43 _ rfl (HS0.out.at_ 0 rfl) 19 (viewV v) rfl _ Tryd.underlying43 rfl (by kernel_rfl) (Nat.le_of_ble_eq_true rfl) rfl ?_)
  refine (theirs_c v _).mono ?_
  rintro e W1 ⟨rfl, hb⟩
  have HS1 := Lib.hid (HS0.out.after hb)
  clear hb HS0
  go_wp2_with fail
  refine (decide_yes v hr _ HS1.out.tab).mono ?_
  rintro e W2 ⟨rfl, hb⟩
  have HS2 := Lib.hid (HS1.out.after hb)
  clear hb HS1
  go_wp2_with (first
    | (refine wpList_alloc_at rfl (some 3) rfl 24 z4 (by kernel_rfl) ?_; intro g3 W3 hb hB hg; have HS3 := Lib.hid (HS2.out.new hb hB hg); clear hb hB hg HS2)
    | (refine wpList_alloc_at rfl (some 4) rfl 24 z4 (by kernel_rfl) ?_; intro g4 W4 hb hB hg; have HS4 := Lib.hid (HS3.out.new hb hB hg); clear hb hB hg HS3)
    | (refine wpList_store_at rfl 24 _ _ rfl (HS4.out.at_ 1 rfl) (nsV (onS v)) rfl rfl (by kernel_rfl) (Nat.le_of_ble_eq_true rfl) (by kernel_rfl) ?_; intro W5 hB hP; have HS5 := Lib.hid (HS4.out.put 1 rfl (new := nsA (onS v)) hB hP); clear hB hP HS4)
    | (refine wpList_store_at rfl 24 _ _ rfl (HS5.out.at_ 2 rfl) (nsV (offS v)) rfl rfl (by kernel_rfl) (Nat.le_of_ble_eq_true rfl) (by kernel_rfl) ?_; intro W6 hB hP; have HS6 := Lib.hid (HS5.out.put 2 rfl (new := nsA (offS v)) hB hP); clear hB hP HS5; obtain ⟨r0a, r0b, r0c⟩ := HS6.out.rules 0 rfl; obtain ⟨r2a, r2b, r2c⟩ := HS6.out.rules 2 rfl))
  refine (and_c (offS v) v.wnt _).mono ?_
  rw [law_keep1, empty_val]
  rintro e W7 ⟨rfl, hb⟩
  have HS7 := Lib.hid (HS6.out.after hb)
  clear hb HS6 r0a r0b r0c r2a r2b r2c
  obtain ⟨r0a, r0b, r0c⟩ := HS7.out.rules 0 rfl
  obtain ⟨r2a, r2b, r2c⟩ := HS7.out.rules 2 rfl
  go_wp2_with fail
  refine (not_c (offS v) v.old _).mono ?_
  rw [law_keep2, empty_val]
  rintro e W8 ⟨rfl, hb⟩
  have HS8 := Lib.hid (HS7.out.after hb)
  clear hb HS7 r0a r0b r0c r2a r2b r2c
  go_wp2_with fail
  refine region_b (St w _) (by kernel_rfl) (by kernel_rfl) HS8.out ?_
  clear HS8
  intro W9 hS
  have q0 := hS.on 0 rfl
  have q1 := hS.on 1 rfl
  have q2 := hS.on 2 rfl
  have HS9 := Lib.hid hS
  clear hS
  repeat (first | go_big_quiet_step (first | with_reducible exact Calls.regrown_of (or_c _ _ _) | with_reducible exact Calls.regrown_of (not_c _ _ _) | with_reducible exact Calls.regrown_of (count_c _ _)) | quiet_step (first | with_reducible exact Calls.regrown_of (or_c _ _ _) | with_reducible exact Calls.regrown_of (not_c _ _ _) | with_reducible exact Calls.regrown_of (count_c _ _)))
  refine wpQuiet_nil ?_
  intro W10 hb
  have HS10 := Lib.hid (HS9.out.after hb)
  clear hb HS9 q0 q1 q2
  obtain ⟨r2a, r2b, r2c⟩ := HS10.out.rules 2 rfl
  obtain ⟨r0a, r0b, r0c⟩ := HS10.out.rules 0 rfl
  have hz := wn_zero_iff (offS v)
  rcases HK3.out with h | h
  · rw [decide_eq_true h] at hz
    clear h
    go_wp2_with fail
    refine (alive19 _ HS10.out.tab).mono ?_
    rintro e W11 ⟨rfl, hb⟩
    have HS11 := Lib.hid (HS10.out.after hb)
    clear hb HS10
    go_wp2
    go_ret
    exact ⟨rfl, HS11.out.below⟩
  · by_cases h0 : offS v = emptyS
    · rw [decide_eq_true h0] at hz
      clear h h0
      go_wp2_with fail
      refine (alive19 _ HS10.out.tab).mono ?_
      rintro e W11 ⟨rfl, hb⟩
      have HS11 := Lib.hid (HS10.out.after hb)
      clear hb HS10
      go_wp2
      go_ret
      exact ⟨rfl, HS11.out.below⟩
    · rw [decide_eq_false h0] at hz
      clear h0
      go_wp2_with fail
      refine (alive19 _ HS10.out.tab).mono ?_
      rintro e W11 ⟨rfl, hb⟩
      have HS11 := Lib.hid (HS10.out.after hb)
      clear hb HS10
      go_wp2
      go_ret
      exact ⟨rfl, HS11.out.below⟩
theorem scaleKeeps_w (v : Vw) (w : World) (hT : TabW w) : Calls Tryd.prog 10 #[viewV v] w fun e w' => e = .returned (.bool true) ∧ Below w.heap.size w w' := by
  cases h : rightB v
  · exact scaleKeeps_no v h w hT
  · exact scaleKeeps_yes v h w hT

end Go.Proofs.YtmhbblkihjmonaaDoor
