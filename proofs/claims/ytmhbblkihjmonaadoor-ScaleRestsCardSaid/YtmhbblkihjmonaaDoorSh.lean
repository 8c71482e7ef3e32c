/- Scale: the law ScaleRests: its walk. -/
import Derived.Test.YtmhbblkihjmonaaDoorSd
set_option linter.unusedVariables false
namespace Go.Proofs.YtmhbblkihjmonaaDoor
open Go.RowKit Go.Sort
set_option maxRecDepth 100000 in
set_option maxHeartbeats 16000000 in
theorem scaleRests_no (v : Vw) (hr : rightB v = false) (w : World) (hT : TabW w) : Calls Tryd.prog 14 #[viewV v] w fun e w' => e = .returned (.bool true) ∧ Below w.heap.size w w' := by
  have HS0 := Lib.hid ((St.nil hT).alloc 43 (viewA v))
  clear hT
  go_enter Tryd.func14, Tryd.ntmps14
  go_wp2_with (refine wpList_load_at rfl 43 _ rfl (HS0.out.at_ 0 rfl) 19 (viewV v) rfl _ Tryd.underlying43 rfl (by kernel_rfl) (Nat.le_of_ble_eq_true rfl) rfl ?_)
  refine (theirs_c v _).mono ?_
  rintro e W1 ⟨rfl, hb⟩
  have HS1 := Lib.hid (HS0.out.after hb)
  clear hb HS0
  go_wp2_with fail
  refine (calm_no v hr _).mono ?_
  rintro e W2 ⟨rfl, hb⟩
  have HS2 := Lib.hid (HS1.out.after hb)
  clear hb HS1
  go_wp2_with fail
  refine (alive19 _ HS2.out.tab).mono ?_
  rintro e W3 ⟨rfl, hb⟩
  have HS3 := Lib.hid (HS2.out.after hb)
  clear hb HS2
  go_wp2
  go_ret
  exact ⟨rfl, HS3.out.below⟩
set_option maxRecDepth 100000 in
set_option maxHeartbeats 16000000 in
theorem scaleRests_yes (v : Vw) (hr : rightB v = true) (w : World) (hT : TabW w) : Calls Tryd.prog 14 #[viewV v] w fun e w' => e = .returned (.bool true) ∧ Below w.heap.size w w' := by
  have HS0 := Lib.hid ((St.nil hT).alloc 43 (viewA v))
  clear hT
  have HR := Lib.hid hr
  have HC := calm_any v
  have hdE : dE v = 0 := by unfold dE; rw [hr]; rfl
  rw [hdE] at HC
  have HCC := Lib.hid HC
  obtain ⟨c1, c2, c3⟩ := calmN_spec hr
  have c4 := calmN_le v
  obtain ⟨n, hn⟩ : ∃ n, n = calmN v := ⟨_, rfl⟩
  rw [← hn] at c1 c2 c3 c4 HCC
  have HN1 := Lib.hid c2
  have HN2 := Lib.hid c3
  have hcnt := cnt_le v.off
  clear hn c2 c3 hdE HC hr
  go_enter Tryd.func14, Tryd.ntmps14
  go_wp2_with (refine wpList_load_at rfl 43 _ rfl (HS0.out.at_ 0 rfl) 19 (viewV v) rfl _ Tryd.underlying43 rfl (by kernel_rfl) (Nat.le_of_ble_eq_true rfl) rfl ?_)
  refine (theirs_c v _).mono ?_
  rintro e W1 ⟨rfl, hb⟩
  have HS1 := Lib.hid (HS0.out.after hb)
  clear hb HS0
  go_wp2_with fail
  refine (HCC.out _ HS1.out.tab).mono ?_
  rintro e W2 ⟨rfl, hb⟩
  have HS2 := Lib.hid (HS1.out.after hb)
  clear hb HS1
  obtain ⟨r0a, r0b, r0c⟩ := HS2.out.rules 0 rfl
  go_wp2_with fail
  refine (count_c v.off _).mono ?_
  rintro e W3 ⟨rfl, hb⟩
  have HS3 := Lib.hid (HS2.out.after hb)
  clear hb HS2 r0a r0b r0c
  go_wp2_with (refine wpList_load_at rfl 43 _ rfl (HS3.out.at_ 0 rfl) 19 (viewV v) rfl _ Tryd.underlying43 rfl (by kernel_rfl) (Nat.le_of_ble_eq_true rfl) rfl ?_)
  refine (theirs_c v _).mono ?_
  rintro e W4 ⟨rfl, hb⟩
  have HS4 := Lib.hid (HS3.out.after hb)
  clear hb HS3
  go_wp2_with (first
    | (refine wpList_alloc_at rfl (some 5) rfl 47 z19 (by kernel_rfl) ?_; intro g5 W5 hb hB hg; have HS5 := Lib.hid (HS4.out.new hb hB hg); clear hb hB hg HS4)
    | (refine wpList_store_at rfl 47 _ _ rfl (HS5.out.at_ 1 rfl) (viewV v) rfl rfl (by kernel_rfl) (Nat.le_of_ble_eq_true rfl) (by kernel_rfl) ?_; intro W6 hB hP; have HS6 := Lib.hid (HS5.out.put 1 rfl (new := viewA v) hB hP); clear hB hP HS5))
  go_loopw [34] (fun i wr => ∃ k : Nat, k ≤ n ∧ i = .int .i64 k ∧ St w [⟨w.heap.size, 43, viewA v⟩, ⟨g5, 47, viewA (iterV k v)⟩] wr) (fun i _ => n - (intOf i).toNat)
  case atStart => exact ⟨0, by omega, rfl, HS6.out⟩
  case round =>
    obtain ⟨k, hk, rfl, hS⟩ := hrel
    clear HS6
    by_cases hlt : k < n
    · have hu := right_iter k HR.out
      have hq := iter_succ k v
      have hrest := HN1.out k hlt
      have HQ := Lib.hid hq
      clear hq
      obtain ⟨u, hu0⟩ : ∃ u : Vw, u = iterV k v := ⟨_, rfl⟩
      rw [← hu0] at hu hrest HQ hS
      clear hu0
      have HS100 := Lib.hid hS
      clear hS
      go_wp2_with (refine wpList_load_at rfl 47 _ rfl (HS100.out.at_ 1 rfl) 19 (viewV u) rfl _ Tryd.underlying47 rfl (by kernel_rfl) (Nat.le_of_ble_eq_true rfl) rfl ?_)
      refine (decide_yes u hu _ HS100.out.tab).mono ?_
      rintro e W101 ⟨rfl, hb⟩
      have HS101 := Lib.hid (HS100.out.after hb)
      clear hb HS100
      have hz := wn_zero_iff (onS u)
      have hy := wn_zero_iff (offS u)
      unfold restB at hrest
      by_cases a : onS u = emptyS
      · rw [decide_eq_true a] at hz hrest
        have b : decide (offS u = emptyS) = false := by simpa using hrest
        rw [b] at hy
        clear hrest a b
        go_wp2_with (first
          | (refine wpList_alloc_at rfl (some 6) rfl 24 z4 (by kernel_rfl) ?_; intro g102 W102 hb hB hg; have HS102 := Lib.hid (HS101.out.new hb hB hg); clear hb hB hg HS101)
          | (refine wpList_alloc_at rfl (some 7) rfl 24 z4 (by kernel_rfl) ?_; intro g103 W103 hb hB hg; have HS103 := Lib.hid (HS102.out.new hb hB hg); clear hb hB hg HS102)
          | (refine wpList_store_at rfl 24 _ _ rfl (HS103.out.at_ 2 rfl) (nsV (onS u)) rfl rfl (by kernel_rfl) (Nat.le_of_ble_eq_true rfl) (by kernel_rfl) ?_; intro W104 hB hP; have HS104 := Lib.hid (HS103.out.put 2 rfl (new := nsA (onS u)) hB hP); clear hB hP HS103)
          | (refine wpList_store_at rfl 24 _ _ rfl (HS104.out.at_ 3 rfl) (nsV (offS u)) rfl rfl (by kernel_rfl) (Nat.le_of_ble_eq_true rfl) (by kernel_rfl) ?_; intro W105 hB hP; have HS105 := Lib.hid (HS104.out.put 3 rfl (new := nsA (offS u)) hB hP); clear hB hP HS104; obtain ⟨r2a, r2b, r2c⟩ := HS105.out.rules 2 rfl; obtain ⟨r3a, r3b, r3c⟩ := HS105.out.rules 3 rfl)
          | (refine wpList_load_at rfl 47 _ rfl (HS105.out.at_ 1 rfl) 19 (viewV u) rfl _ Tryd.underlying47 rfl (by kernel_rfl) (Nat.le_of_ble_eq_true rfl) rfl ?_))
        refine (after_c u (onS u) (offS u) _).mono ?_
        rintro e W106 ⟨rfl, hb⟩
        have HS106 := Lib.hid (HS105.out.after hb)
        clear hb HS105 r2a r2b r2c r3a r3b r3c
        go_wp2_with (refine wpList_store_at rfl 47 _ _ rfl (HS106.out.at_ 1 rfl) (viewV (afterV u (onS u) (offS u))) rfl rfl (by kernel_rfl) (Nat.le_of_ble_eq_true rfl) (by kernel_rfl) ?_; intro W107 hB hP; have HS107 := Lib.hid (HS106.out.put 1 rfl (new := viewA (afterV u (onS u) (offS u))) hB hP); clear hB hP HS106)
        go_roundw
        case rel => exact ⟨k + 1, by omega, by go_num, by rw [HQ.out]; exact St.cut (l := [⟨w.heap.size, 43, viewA v⟩, ⟨g5, 47, viewA (stepV u)⟩]) (k := [⟨_, 24, _⟩, ⟨_, 24, _⟩]) HS107.out⟩
        case measure => simp [intOf]; omega
      · rw [decide_eq_false a] at hz
        clear hrest a hy
        go_wp2_with (first
          | (refine wpList_alloc_at rfl (some 6) rfl 24 z4 (by kernel_rfl) ?_; intro g102 W102 hb hB hg; have HS102 := Lib.hid (HS101.out.new hb hB hg); clear hb hB hg HS101)
          | (refine wpList_alloc_at rfl (some 7) rfl 24 z4 (by kernel_rfl) ?_; intro g103 W103 hb hB hg; have HS103 := Lib.hid (HS102.out.new hb hB hg); clear hb hB hg HS102)
          | (refine wpList_store_at rfl 24 _ _ rfl (HS103.out.at_ 2 rfl) (nsV (onS u)) rfl rfl (by kernel_rfl) (Nat.le_of_ble_eq_true rfl) (by kernel_rfl) ?_; intro W104 hB hP; have HS104 := Lib.hid (HS103.out.put 2 rfl (new := nsA (onS u)) hB hP); clear hB hP HS103)
          | (refine wpList_store_at rfl 24 _ _ rfl (HS104.out.at_ 3 rfl) (nsV (offS u)) rfl rfl (by kernel_rfl) (Nat.le_of_ble_eq_true rfl) (by kernel_rfl) ?_; intro W105 hB hP; have HS105 := Lib.hid (HS104.out.put 3 rfl (new := nsA (offS u)) hB hP); clear hB hP HS104; obtain ⟨r2a, r2b, r2c⟩ := HS105.out.rules 2 rfl; obtain ⟨r3a, r3b, r3c⟩ := HS105.out.rules 3 rfl)
          | (refine wpList_load_at rfl 47 _ rfl (HS105.out.at_ 1 rfl) 19 (viewV u) rfl _ Tryd.underlying47 rfl (by kernel_rfl) (Nat.le_of_ble_eq_true rfl) rfl ?_))
        refine (after_c u (onS u) (offS u) _).mono ?_
        rintro e W106 ⟨rfl, hb⟩
        have HS106 := Lib.hid (HS105.out.after hb)
        clear hb HS105 r2a r2b r2c r3a r3b r3c
        go_wp2_with (refine wpList_store_at rfl 47 _ _ rfl (HS106.out.at_ 1 rfl) (viewV (afterV u (onS u) (offS u))) rfl rfl (by kernel_rfl) (Nat.le_of_ble_eq_true rfl) (by kernel_rfl) ?_; intro W107 hB hP; have HS107 := Lib.hid (HS106.out.put 1 rfl (new := viewA (afterV u (onS u) (offS u))) hB hP); clear hB hP HS106)
        go_roundw
        case rel => exact ⟨k + 1, by omega, by go_num, by rw [HQ.out]; exact St.cut (l := [⟨w.heap.size, 43, viewA v⟩, ⟨g5, 47, viewA (stepV u)⟩]) (k := [⟨_, 24, _⟩, ⟨_, 24, _⟩]) HS107.out⟩
        case measure => simp [intOf]; omega
    · obtain rfl : n = k := by omega
      have HS200 := Lib.hid hS
      clear hS
      have hu := right_iter n HR.out
      have hrest := HN2.out
      obtain ⟨u, hu0⟩ : ∃ u : Vw, u = iterV n v := ⟨_, rfl⟩
      rw [← hu0] at hu hrest HS200
      clear hu0
      have hz := wn_zero_iff (onS u)
      have hy := wn_zero_iff (offS u)
      simp only [restB, Bool.and_eq_true] at hrest
      rw [hrest.1] at hz
      rw [hrest.2] at hy
      clear hrest
      go_wp2_with (refine wpList_load_at rfl 47 _ rfl (HS200.out.at_ 1 rfl) 19 (viewV u) rfl _ Tryd.underlying47 rfl (by kernel_rfl) (Nat.le_of_ble_eq_true rfl) rfl ?_)
      refine (decide_yes u hu _ HS200.out.tab).mono ?_
      rintro e W201 ⟨rfl, hb⟩
      have HS201 := Lib.hid (HS200.out.after hb)
      clear hb HS200
      go_wp2_with (first
        | (refine wpList_alloc_at rfl (some 9) rfl 24 z4 (by kernel_rfl) ?_; intro g202 W202 hb hB hg; have HS202 := Lib.hid (HS201.out.new hb hB hg); clear hb hB hg HS201)
        | (refine wpList_alloc_at rfl (some 10) rfl 24 z4 (by kernel_rfl) ?_; intro g203 W203 hb hB hg; have HS203 := Lib.hid (HS202.out.new hb hB hg); clear hb hB hg HS202)
        | (refine wpList_store_at rfl 24 _ _ rfl (HS203.out.at_ 2 rfl) (nsV (onS u)) rfl rfl (by kernel_rfl) (Nat.le_of_ble_eq_true rfl) (by kernel_rfl) ?_; intro W204 hB hP; have HS204 := Lib.hid (HS203.out.put 2 rfl (new := nsA (onS u)) hB hP); clear hB hP HS203)
        | (refine wpList_store_at rfl 24 _ _ rfl (HS204.out.at_ 3 rfl) (nsV (offS u)) rfl rfl (by kernel_rfl) (Nat.le_of_ble_eq_true rfl) (by kernel_rfl) ?_; intro W205 hB hP; have HS205 := Lib.hid (HS204.out.put 3 rfl (new := nsA (offS u)) hB hP); clear hB hP HS204; obtain ⟨r2a, r2b, r2c⟩ := HS205.out.rules 2 rfl; obtain ⟨r3a, r3b, r3c⟩ := HS205.out.rules 3 rfl))
      refine (alive19 _ HS205.out.tab).mono ?_
      rintro e W206 ⟨rfl, hb⟩
      have HS206 := Lib.hid (HS205.out.after hb)
      clear hb HS205 r2a r2b r2c r3a r3b r3c
      go_wp2
      go_ret
      exact ⟨rfl, HS206.out.below⟩
theorem scaleRests_w (v : Vw) (w : World) (hT : TabW w) : Calls Tryd.prog 14 #[viewV v] w fun e w' => e = .returned (.bool true) ∧ Below w.heap.size w w' := by
  cases h : rightB v
  · exact scaleRests_no v h w hT
  · exact scaleRests_yes v h w hT
end Go.Proofs.YtmhbblkihjmonaaDoor
