/- Scale: the law ScaleLeast: its walk. -/
import Derived.Test.YtmhbblkihjmonaaDoorSd
set_option linter.unusedVariables false
namespace Go.Proofs.YtmhbblkihjmonaaDoor
open Go.RowKit Go.Sort
def leastV (v : Vw) : Vw := { v with wnt := emptyS, old := v.pow }
theorem least_cells (v : Vw) : viewA { v with wnt := emptyS } = spl (viewA v) 12 (Value.agg z4).cells.toList := by
  simp only [viewA, wn_empty]
  rfl
set_option maxRecDepth 100000 in
set_option maxHeartbeats 16000000 in
theorem scaleLeast_no (v : Vw) (hr : rightB (leastV v) = false) (w : World) (hT : TabW w) : Calls Tryd.prog 15 #[viewV v] w fun e w' => e = .returned (.bool true) ∧ Below w.heap.size w w' := by
  have HS0 := Lib.hid ((St.nil hT).alloc 43 (viewA v))
  clear hT
  go_enter Tryd.func15, Tryd.ntmps15
  go_wp2_with (first
    | (refine wpList_store_at rfl 24 _ _ rfl (HS0.out.at_ 0 rfl) (.agg z4) rfl rfl (by kernel_rfl) (Nat.le_of_ble_eq_true rfl) (by kernel_rfl) ?_; intro W1 hB hP; have HS1 := Lib.hid (HS0.out.put 0 rfl (new := viewA { v with wnt := emptyS }) (by rw [least_cells]; exact hB) hP); clear hB hP HS0; obtain ⟨r0a, r0b, r0c⟩ := HS1.out.rules 0 rfl)
    | (refine wpList_store_at rfl 24 _ _ rfl (HS1.out.at_ 0 rfl) (nsV v.pow) rfl rfl (by kernel_rfl) (Nat.le_of_ble_eq_true rfl) (by kernel_rfl) ?_; intro W2 hB hP; have HS2 := Lib.hid (HS1.out.put 0 rfl (new := viewA (leastV v)) hB hP); clear hB hP HS1; clear r0a r0b r0c)
    | (refine wpList_load_at rfl 43 _ rfl (HS2.out.at_ 0 rfl) 19 (viewV (leastV v)) rfl _ Tryd.underlying43 rfl (by kernel_rfl) (Nat.le_of_ble_eq_true rfl) rfl ?_))
  refine (theirs_c (leastV v) _).mono ?_
  rintro e W3 ⟨rfl, hb⟩
  have HS3 := Lib.hid (HS2.out.after hb)
  clear hb HS2
  go_wp2_with fail
  refine (calm_no (leastV v) hr _).mono ?_
  rintro e W4 ⟨rfl, hb⟩
  have HS4 := Lib.hid (HS3.out.after hb)
  clear hb HS3
  go_wp2_with fail
  refine (alive19 _ HS4.out.tab).mono ?_
  rintro e W5 ⟨rfl, hb⟩
  have HS5 := Lib.hid (HS4.out.after hb)
  clear hb HS4
  go_wp2
  go_ret
  exact ⟨rfl, HS5.out.below⟩
set_option maxRecDepth 100000 in
set_option maxHeartbeats 16000000 in
theorem scaleLeast_yes (v : Vw) (hr : rightB (leastV v) = true) (w : World) (hT : TabW w) : Calls Tryd.prog 15 #[viewV v] w fun e w' => e = .returned (.bool true) ∧ Below w.heap.size w w' := by
  have HS0 := Lib.hid ((St.nil hT).alloc 43 (viewA v))
  clear hT
  have HR := Lib.hid hr
  have HC := calm_any (leastV v)
  have hdE : dE (leastV v) = 0 := by unfold dE; rw [hr]; rfl
  rw [hdE] at HC
  have HCC := Lib.hid HC
  obtain ⟨c1, c2, c3⟩ := calmN_spec hr
  have c4 := calmN_le (leastV v)
  obtain ⟨n, hn⟩ : ∃ n, n = calmN (leastV v) := ⟨_, rfl⟩
  rw [← hn] at c1 c2 c3 c4 HCC
  have HN1 := Lib.hid c2
  have HN2 := Lib.hid c3
  have hcnt := cnt_le v.off
  have hcnt2 := cnt_le v.pow
  have q600 : min (n : Int) 600 = n := by omega
  clear hn c1 c2 c3 hdE HC hr
  go_enter Tryd.func15, Tryd.ntmps15
  go_wp2_with (first
    | (refine wpList_store_at rfl 24 _ _ rfl (HS0.out.at_ 0 rfl) (.agg z4) rfl rfl (by kernel_rfl) (Nat.le_of_ble_eq_true rfl) (by kernel_rfl) ?_; intro W1 hB hP; have HS1 := Lib.hid (HS0.out.put 0 rfl (new := viewA { v with wnt := emptyS }) (by rw [least_cells]; exact hB) hP); clear hB hP HS0; obtain ⟨r0a, r0b, r0c⟩ := HS1.out.rules 0 rfl)
    | (refine wpList_store_at rfl 24 _ _ rfl (HS1.out.at_ 0 rfl) (nsV v.pow) rfl rfl (by kernel_rfl) (Nat.le_of_ble_eq_true rfl) (by kernel_rfl) ?_; intro W2 hB hP; have HS2 := Lib.hid (HS1.out.put 0 rfl (new := viewA (leastV v)) hB hP); clear hB hP HS1; clear r0a r0b r0c)
    | (refine wpList_load_at rfl 43 _ rfl (HS2.out.at_ 0 rfl) 19 (viewV (leastV v)) rfl _ Tryd.underlying43 rfl (by kernel_rfl) (Nat.le_of_ble_eq_true rfl) rfl ?_))
  refine (theirs_c (leastV v) _).mono ?_
  rintro e W3 ⟨rfl, hb⟩
  have HS3 := Lib.hid (HS2.out.after hb)
  clear hb HS2
  go_wp2_with fail
  refine (HCC.out _ HS3.out.tab).mono ?_
  rintro e W4 ⟨rfl, hb⟩
  have HS4 := Lib.hid (HS3.out.after hb)
  clear hb HS3
  go_wp2_with (refine wpList_load_at rfl 43 _ rfl (HS4.out.at_ 0 rfl) 19 (viewV (leastV v)) rfl _ Tryd.underlying43 rfl (by kernel_rfl) (Nat.le_of_ble_eq_true rfl) rfl ?_)
  refine (theirs_c (leastV v) _).mono ?_
  rintro e W5 ⟨rfl, hb⟩
  have HS5 := Lib.hid (HS4.out.after hb)
  clear hb HS4
  go_wp2_with (first
    | (refine wpList_alloc_at rfl (some 5) rfl 47 z19 (by kernel_rfl) ?_; intro g6 W6 hb hB hg; have HS6 := Lib.hid (HS5.out.new hb hB hg); clear hb hB hg HS5)
    | (refine wpList_store_at rfl 47 _ _ rfl (HS6.out.at_ 1 rfl) (viewV (leastV v)) rfl rfl (by kernel_rfl) (Nat.le_of_ble_eq_true rfl) (by kernel_rfl) ?_; intro W7 hB hP; have HS7 := Lib.hid (HS6.out.put 1 rfl (new := viewA (leastV v)) hB hP); clear hB hP HS6))
  go_loopw [28] (fun i wr => ∃ k : Nat, k ≤ n ∧ i = .int .i64 k ∧ St w [⟨w.heap.size, 43, viewA (leastV v)⟩, ⟨g6, 47, viewA (iterV k (leastV v))⟩] wr) (fun i _ => n - (intOf i).toNat)
  case atStart => exact ⟨0, by omega, rfl, HS7.out⟩
  case round =>
    obtain ⟨k, hk, rfl, hS⟩ := hrel
    clear HS7
    by_cases hlt : k < n
    · have hu := right_iter k HR.out
      have hq := iter_succ k (leastV v)
      have hrest := HN1.out k hlt
      have HQ := Lib.hid hq
      clear hq
      obtain ⟨u, hu0⟩ : ∃ u : Vw, u = iterV k (leastV v) := ⟨_, rfl⟩
      rw [← hu0] at hu hrest HQ hS
      clear hu0
      clear hrest
      have HS100 := Lib.hid hS
      clear hS
      go_wp2_with (refine wpList_load_at rfl 47 _ rfl (HS100.out.at_ 1 rfl) 19 (viewV u) rfl _ Tryd.underlying47 rfl (by kernel_rfl) (Nat.le_of_ble_eq_true rfl) rfl ?_)
      refine (decide_yes u hu _ HS100.out.tab).mono ?_
      rintro e W101 ⟨rfl, hb⟩
      have HS101 := Lib.hid (HS100.out.after hb)
      clear hb HS100
      go_wp2_with (first
        | (refine wpList_alloc_at rfl (some 6) rfl 24 z4 (by kernel_rfl) ?_; intro g102 W102 hb hB hg; have HS102 := Lib.hid (HS101.out.new hb hB hg); clear hb hB hg HS101)
        | (refine wpList_alloc_at rfl (some 7) rfl 24 z4 (by kernel_rfl) ?_; intro g103 W103 hb hB hg; have HS103 := Lib.hid (HS102.out.new hb hB hg); clear hb hB hg HS102)
        | (refine wpList_store_at rfl 24 _ _ rfl (HS103.out.at_ 2 rfl) (nsV (onS u)) rfl rfl (by kernel_rfl) (Nat.le_of_ble_eq_true rfl) (by kernel_rfl) ?_; intro W104 hB hP; have HS104 := Lib.hid (HS103.out.put 2 rfl (new := nsA (onS u)) hB hP); clear hB hP HS103)
        | (refine wpList_store_at rfl 24 _ _ rfl (HS104.out.at_ 3 rfl) (nsV (offS u)) rfl rfl (by kernel_rfl) (Nat.le_of_ble_eq_true rfl) (by kernel_rfl) ?_; intro W105 hB hP; have HS105 := Lib.hid (HS104.out.put 3 rfl (new := nsA (offS u)) hB hP); clear hB hP HS104; obtain ⟨r2a, r2b, r2c⟩ := HS105.out.rules 2 rfl; obtain ⟨r3a, r3b, r3c⟩ := HS105.out.rules 3 rfl)
        | (refine wpList_load_at rfl 47 _ rfl (HS105.out.at_ 1 rfl) 19 (viewV u) rfl _ Tryd.underlying47 rfl (by kernel_rfl) (Nat.le_of_ble_eq_true rfl) rfl ?_))
      refine (after_c u (onS u) (offS u) _).mono ?_
      rintro e W106 ⟨rfl, hb⟩
      have HS106 := Lib.hid (HS105.out.after hb)
      clear hb HS105 r2a r2b r2c r3a r3b r3c
      go_wp2_with (refine wpList_store_at rfl 47 _ _ rfl (HS106.out.at_ 1 rfl) (viewV (afterV u (onS u) (offS u))) rfl rfl (by kernel_rfl) (Nat.le_of_ble_eq_true rfl) (by kernel_rfl) ?_; intro W107 hB hP; have HS107 := Lib.hid (HS106.out.put 1 rfl (new := viewA (afterV u (onS u) (offS u))) hB hP); clear hB hP HS106)
      go_roundw
      case rel => exact ⟨k + 1, by omega, by go_num, by rw [HQ.out]; exact St.cut (l := [⟨w.heap.size, 43, viewA (leastV v)⟩, ⟨g6, 47, viewA (stepV u)⟩]) (k := [⟨_, 24, _⟩, ⟨_, 24, _⟩]) HS107.out⟩
      case measure => simp [intOf]; omega
    · obtain rfl : n = k := by omega
      have HS200 := Lib.hid hS
      clear hS
      have hw := law_least HR.out rfl rfl HN2.out
      obtain ⟨u, hu0⟩ : ∃ u : Vw, u = iterV n (leastV v) := ⟨_, rfl⟩
      rw [← hu0] at hw HS200
      clear hu0
      have e1 : (leastV v).off = v.off := rfl
      have e2 : (leastV v).pow = v.pow := rfl
      have e3 : (leastV v).mn = v.mn := rfl
      rw [e1, e2, e3] at hw
      have q1 : (if (cnt v.off : Int) + (cnt v.pow : Int) < v.mn then (cnt v.off : Int) + (cnt v.pow : Int) else v.mn) = (cnt u.pow : Int) := by
        rw [hw]
        split <;> split <;> omega
      have q2 : min v.mn ((cnt v.off : Int) + (cnt v.pow : Int)) = (cnt u.pow : Int) := by
        rw [hw]
        split <;> omega
      clear hw q1
      go_wp2_with fail
      refine region_b (St w _) (by kernel_rfl) (by kernel_rfl) HS200.out ?_
      clear HS200
      intro W201 hS
      have q0 := hS.on 0 rfl
      have HS201 := Lib.hid hS
      clear hS
      repeat (first | go_big_quiet_step (first | with_reducible exact Calls.regrown_of (count_c _ _)) | quiet_step (first | with_reducible exact Calls.regrown_of (count_c _ _)))
      refine wpQuiet_nil ?_
      intro W202 hb
      have HS202 := Lib.hid (HS201.out.after hb)
      clear hb HS201 q0
      go_wp2_with fail
      refine region_b (St w _) (by kernel_rfl) (by kernel_rfl) HS202.out ?_
      clear HS202
      intro W203 hS
      have q0 := hS.on 0 rfl
      have q1 := hS.on 1 rfl
      have HS203 := Lib.hid hS
      clear hS
      repeat (first | go_big_quiet_step (first | with_reducible exact Calls.regrown_of (count_c _ _) | with_reducible exact Calls.regrown_of (alive19 _ (HS203.out.tabOn _ _))) | quiet_step (first | with_reducible exact Calls.regrown_of (count_c _ _) | with_reducible exact Calls.regrown_of (alive19 _ (HS203.out.tabOn _ _))))
      refine wpQuiet_nil ?_
      intro W204 hb
      have HS204 := Lib.hid (HS203.out.after hb)
      clear hb HS203 q0 q1
      go_wp2
      go_ret
      exact ⟨rfl, HS204.out.below⟩
theorem scaleLeast_w (v : Vw) (w : World) (hT : TabW w) : Calls Tryd.prog 15 #[viewV v] w fun e w' => e = .returned (.bool true) ∧ Below w.heap.size w w' := by
  cases h : rightB (leastV v)
  · exact scaleLeast_no v h w hT
  · exact scaleLeast_yes v h w hT
end Go.Proofs.YtmhbblkihjmonaaDoor
