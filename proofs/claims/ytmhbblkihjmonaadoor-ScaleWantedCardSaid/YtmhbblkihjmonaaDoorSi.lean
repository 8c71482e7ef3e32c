/- Scale: the law ScaleWanted: its walk. -/
import Derived.Test.YtmhbblkihjmonaaDoorSd
set_option linter.unusedVariables false
namespace Go.Proofs.YtmhbblkihjmonaaDoor
open Go.RowKit Go.Sort
set_option maxRecDepth 100000 in
set_option maxHeartbeats 16000000 in
theorem scaleWanted_no (v : Vw) (hr : rightB v = false) (w : World) (hT : TabW w) : Calls Tryd.prog 16 #[viewV v] w fun e w' => e = .returned (.bool true) ∧ Below w.heap.size w w' := by
  have HS0 := Lib.hid ((St.nil hT).alloc 43 (viewA v))
  clear hT
  go_enter Tryd.func16, Tryd.ntmps16
  go_wp2_with (refine wpList_load_at rfl 43 _ rfl (HS0.out.at_ 0 rfl) 19 (viewV v) rfl _ Tryd.underlying43 rfl (by kernel_rfl) (Nat.le_of_ble_eq_true rfl) rfl ?_)
  refine (theirs_c v _).mono ?_
  rintro e W1 ⟨rfl, hb⟩
  have HS1 := Lib.hid (HS0.out.after hb)
  clear hb HS0
  go_wp2_with fail
  refine (calm_no v hr _).mono ?_
  rintro e W2 ⟨rfl, hb⟩
  have HS2 := Lib.hid (HS1.out.after hb)
  clear hb HS1
  go_wp2_with fail
  refine (alive19 _ HS2.out.tab).mono ?_
  rintro e W3 ⟨rfl, hb⟩
  have HS3 := Lib.hid (HS2.out.after hb)
  clear hb HS2
  go_wp2
  go_ret
  exact ⟨rfl, HS3.out.below⟩
set_option maxRecDepth 100000 in
set_option maxHeartbeats 16000000 in
theorem scaleWanted_yes (v : Vw) (hr : rightB v = true) (w : World) (hT : TabW w) : Calls Tryd.prog 16 #[viewV v] w fun e w' => e = .returned (.bool true) ∧ Below w.heap.size w w' := by
  have HS0 := Lib.hid ((St.nil hT).alloc 43 (viewA v))
  clear hT
  have HR := Lib.hid hr
  have HC := calm_any v
  have hdE : dE v = 0 := by unfold dE; rw [hr]; rfl
  rw [hdE] at HC
  have HCC := Lib.hid HC
  obtain ⟨c1, c2, c3⟩ := calmN_spec hr
  have c4 := calmN_le v
  obtain ⟨n, hn⟩ : ∃ n, n = calmN v := ⟨_, rfl⟩
  rw [← hn] at c1 c2 c3 c4 HCC
  have HN1 := Lib.hid c2
  have HN2 := Lib.hid c3
  have hcnt := cnt_le v.off
  have hcnt2 := cnt_le v.pow
  have q600 : min (n : Int) 600 = n := by omega
  clear hn c1 c2 c3 hdE HC hr
  go_enter Tryd.func16, Tryd.ntmps16
  go_wp2_with (refine wpList_load_at rfl 43 _ rfl (HS0.out.at_ 0 rfl) 19 (viewV v) rfl _ Tryd.underlying43 rfl (by kernel_rfl) (Nat.le_of_ble_eq_true rfl) rfl ?_)
  refine (theirs_c v _).mono ?_
  rintro e W1 ⟨rfl, hb⟩
  have HS1 := Lib.hid (HS0.out.after hb)
  clear hb HS0
  go_wp2_with fail
  refine (HCC.out _ HS1.out.tab).mono ?_
  rintro e W2 ⟨rfl, hb⟩
  have HS2 := Lib.hid (HS1.out.after hb)
  clear hb HS1
  go_wp2_with (refine wpList_load_at rfl 43 _ rfl (HS2.out.at_ 0 rfl) 19 (viewV v) rfl _ Tryd.underlying43 rfl (by kernel_rfl) (Nat.le_of_ble_eq_true rfl) rfl ?_)
  refine (theirs_c v _).mono ?_
  rintro e W3 ⟨rfl, hb⟩
  have HS3 := Lib.hid (HS2.out.after hb)
  clear hb HS2
  go_wp2_with (first
    | (refine wpList_alloc_at rfl (some 5) rfl 47 z19 (by kernel_rfl) ?_; intro g4 W4 hb hB hg; have HS4 := Lib.hid (HS3.out.new hb hB hg); clear hb hB hg HS3)
    | (refine wpList_store_at rfl 47 _ _ rfl (HS4.out.at_ 1 rfl) (viewV v) rfl rfl (by kernel_rfl) (Nat.le_of_ble_eq_true rfl) (by kernel_rfl) ?_; intro W5 hB hP; have HS5 := Lib.hid (HS4.out.put 1 rfl (new := viewA v) hB hP); clear hB hP HS4))
  go_loopw [22] (fun i wr => ∃ k : Nat, k ≤ n ∧ i = .int .i64 k ∧ St w [⟨w.heap.size, 43, viewA v⟩, ⟨g4, 47, viewA (iterV k v)⟩] wr) (fun i _ => n - (intOf i).toNat)
  case atStart => exact ⟨0, by omega, rfl, HS5.out⟩
  case round =>
    obtain ⟨k, hk, rfl, hS⟩ := hrel
    clear HS5
    by_cases hlt : k < n
    · have hu := right_iter k HR.out
      have hq := iter_succ k v
      have hrest := HN1.out k hlt
      have HQ := Lib.hid hq
      clear hq
      obtain ⟨u, hu0⟩ : ∃ u : Vw, u = iterV k v := ⟨_, rfl⟩
      rw [← hu0] at hu hrest HQ hS
      clear hu0
      clear hrest
      have HS100 := Lib.hid hS
      clear hS
      go_wp2_with (refine wpList_load_at rfl 47 _ rfl (HS100.out.at_ 1 rfl) 19 (viewV u) rfl _ Tryd.underlying47 rfl (by kernel_rfl) (Nat.le_of_ble_eq_true rfl) rfl ?_)
      refine (decide_yes u hu _ HS100.out.tab).mono ?_
      rintro e W101 ⟨rfl, hb⟩
      have HS101 := Lib.hid (HS100.out.after hb)
      clear hb HS100
      go_wp2_with (first
        | (refine wpList_alloc_at rfl (some 6) rfl 24 z4 (by kernel_rfl) ?_; intro g102 W102 hb hB hg; have HS102 := Lib.hid (HS101.out.new hb hB hg); clear hb hB hg HS101)
        | (refine wpList_alloc_at rfl (some 7) rfl 24 z4 (by kernel_rfl) ?_; intro g103 W103 hb hB hg; have HS103 := Lib.hid (HS102.out.new hb hB hg); clear hb hB hg HS102)
        | (refine wpList_store_at rfl 24 _ _ rfl (HS103.out.at_ 2 rfl) (nsV (onS u)) rfl rfl (by kernel_rfl) (Nat.le_of_ble_eq_true rfl) (by kernel_rfl) ?_; intro W104 hB hP; have HS104 := Lib.hid (HS103.out.put 2 rfl (new := nsA (onS u)) hB hP); clear hB hP HS103)
        | (refine wpList_store_at rfl 24 _ _ rfl (HS104.out.at_ 3 rfl) (nsV (offS u)) rfl rfl (by kernel_rfl) (Nat.le_of_ble_eq_true rfl) (by kernel_rfl) ?_; intro W105 hB hP; have HS105 := Lib.hid (HS104.out.put 3 rfl (new := nsA (offS u)) hB hP); clear hB hP HS104; obtain ⟨r2a, r2b, r2c⟩ := HS105.out.rules 2 rfl; obtain ⟨r3a, r3b, r3c⟩ := HS105.out.rules 3 rfl)
        | (refine wpList_load_at rfl 47 _ rfl (HS105.out.at_ 1 rfl) 19 (viewV u) rfl _ Tryd.underlying47 rfl (by kernel_rfl) (Nat.le_of_ble_eq_true rfl) rfl ?_))
      refine (after_c u (onS u) (offS u) _).mono ?_
      rintro e W106 ⟨rfl, hb⟩
      have HS106 := Lib.hid (HS105.out.after hb)
      clear hb HS105 r2a r2b r2c r3a r3b r3c
      go_wp2_with (refine wpList_store_at rfl 47 _ _ rfl (HS106.out.at_ 1 rfl) (viewV (afterV u (onS u) (offS u))) rfl rfl (by kernel_rfl) (Nat.le_of_ble_eq_true rfl) (by kernel_rfl) ?_; intro W107 hB hP; have HS107 := Lib.hid (HS106.out.put 1 rfl (new := viewA (afterV u (onS u) (offS u))) hB hP); clear hB hP HS106)
      go_roundw
      case rel => exact ⟨k + 1, by omega, by go_num, by rw [HQ.out]; exact St.cut (l := [⟨w.heap.size, 43, viewA v⟩, ⟨g4, 47, viewA (stepV u)⟩]) (k := [⟨_, 24, _⟩, ⟨_, 24, _⟩]) HS107.out⟩
      case measure => simp [intOf]; omega
    · obtain rfl : n = k := by omega
      have HS200 := Lib.hid hS
      clear hS
      have hw := law_wanted HR.out HN2.out
      have hc3 := (iter_same n v).2.1
      obtain ⟨u, hu0⟩ : ∃ u : Vw, u = iterV n v := ⟨_, rfl⟩
      rw [← hu0] at hw HS200
      clear hu0 hc3
      have hz := wn_zero_iff (u.off &&& v.wnt)
      by_cases h0 : u.off &&& v.wnt = emptyS
      · rw [decide_eq_true h0] at hz
        clear h0 hw
        go_wp2_with fail
        refine region_b (St w _) (by kernel_rfl) (by kernel_rfl) HS200.out ?_
        clear HS200
        intro W201 hS
        have q0 := hS.on 0 rfl
        have q1 := hS.on 1 rfl
        have HS201 := Lib.hid hS
        clear hS
        repeat (first | go_big_quiet_step (first | with_reducible exact Calls.regrown_of (and_c _ _ _) | with_reducible exact Calls.regrown_of (count_c _ _) | with_reducible exact Calls.regrown_of (alive19 _ (HS201.out.tabOn _ _))) | quiet_step (first | with_reducible exact Calls.regrown_of (and_c _ _ _) | with_reducible exact Calls.regrown_of (count_c _ _) | with_reducible exact Calls.regrown_of (alive19 _ (HS201.out.tabOn _ _))))
        refine wpQuiet_nil ?_
        intro W202 hb
        have HS202 := Lib.hid (HS201.out.after hb)
        clear hb HS201 q0 q1
        go_wp2
        go_ret
        exact ⟨rfl, HS202.out.below⟩
      · rw [decide_eq_false h0] at hz
        have hge : v.cp ≤ (cnt u.pow : Int) := by
          rcases hw with h | h
          · exact absurd h h0
          · exact h
        clear h0 hw
        go_wp2_with fail
        refine region_b (St w _) (by kernel_rfl) (by kernel_rfl) HS200.out ?_
        clear HS200
        intro W201 hS
        have q0 := hS.on 0 rfl
        have q1 := hS.on 1 rfl
        have HS201 := Lib.hid hS
        clear hS
        repeat (first | go_big_quiet_step (first | with_reducible exact Calls.regrown_of (and_c _ _ _) | with_reducible exact Calls.regrown_of (count_c _ _) | with_reducible exact Calls.regrown_of (alive19 _ (HS201.out.tabOn _ _))) | quiet_step (first | with_reducible exact Calls.regrown_of (and_c _ _ _) | with_reducible exact Calls.regrown_of (count_c _ _) | with_reducible exact Calls.regrown_of (alive19 _ (HS201.out.tabOn _ _))))
        refine wpQuiet_nil ?_
        intro W202 hb
        have HS202 := Lib.hid (HS201.out.after hb)
        clear hb HS201 q0 q1
        go_wp2
        go_ret
        exact ⟨rfl, HS202.out.below⟩
theorem scaleWanted_w (v : Vw) (w : World) (hT : TabW w) : Calls Tryd.prog 16 #[viewV v] w fun e w' => e = .returned (.bool true) ∧ Below w.heap.size w w' := by
  cases h : rightB v
  · exact scaleWanted_no v h w hT
  · exact scaleWanted_yes v h w hT
end Go.Proofs.YtmhbblkihjmonaaDoor
