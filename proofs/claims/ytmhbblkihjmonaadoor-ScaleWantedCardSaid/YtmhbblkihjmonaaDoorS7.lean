/- Scale: Calm. -/
import Derived.Test.YtmhbblkihjmonaaDoorS6
set_option linter.unusedVariables false
namespace Go.Proofs.YtmhbblkihjmonaaDoor
open Go.RowKit Go.Sort

theorem calm_no (v : Vw) (hr : rightB v = false) (w : World) : Calls Tryd.prog 47 #[viewV v] w fun e w' => e = .returned (.tuple #[.int .i64 0, .int .i64 1]) ∧ Below w.heap.size w w' := by
  have hv := right_c v
  rw [hr] at hv
  have HV := Lib.hid hv
  have H0 := Lib.hid (Blk.new w 47 (viewA v))
  have HL := Lib.hid ((Below.refl w.heap.size w).alloc (Nat.le_refl _) (.cells (viewA v) 47))
  clear hv
  go_enter Tryd.func47, Tryd.ntmps47
  go_wp2_with (refine wpList_load_at rfl 47 _ rfl H0.out 19 (viewV v) rfl _ Tryd.underlying47 rfl (by kernel_rfl) (Nat.le_of_ble_eq_true rfl) rfl ?_)
  refine (HV.out _).mono ?_
  rintro e w1 ⟨rfl, hb⟩
  have HL1 := Lib.hid (below_then HL.out (by simp) hb)
  clear hb H0
  go_wp2
  go_ret2
  exact ⟨rfl, HL1.out⟩

theorem zero_words (s : NS) (h : decide (s = emptyS) = true) : s = emptyS := by simpa using h
set_option maxHeartbeats 8000000 in
theorem calm_yes (v : Vw) (hr : rightB v = true) (n : Nat) (hn : n ≤ 1000) (h1 : ∀ j, j < n → restB (iterV j v) = false) (h2 : restB (iterV n v) = true) (w : World) (hT : TabW w) :
    Calls Tryd.prog 47 #[viewV v] w fun e w' => e = .returned (.tuple #[.int .i64 (n : Nat), .int .i64 0]) ∧ Below w.heap.size w w' := by
  have hv := right_c v
  rw [hr] at hv
  have HV := Lib.hid hv
  have H0 := Lib.hid (Blk.new w 47 (viewA v))
  have HT0 := Lib.hid (hT.alloc (.cells (viewA v) 47))
  have HL := Lib.hid ((Below.refl w.heap.size w).alloc (Nat.le_refl _) (.cells (viewA v) 47))
  have hlt0 := hT.lt
  have K1 := Lib.hid h1
  have K2 := Lib.hid h2
  have HR := Lib.hid hr
  clear hv hT h1 h2 hr
  go_enter Tryd.func47, Tryd.ntmps47
  go_wp2_with (refine wpList_load_at rfl 47 _ rfl H0.out 19 (viewV v) rfl _ Tryd.underlying47 rfl (by kernel_rfl) (Nat.le_of_ble_eq_true rfl) rfl ?_)
  refine (HV.out _).mono ?_
  rintro e w1 ⟨rfl, hb⟩
  have HL1 := Lib.hid (below_then HL.out (by simp) hb)
  have HB1 := Lib.hid (H0.out.after hb)
  have HT1 := Lib.hid (HT0.out.after hb)
  clear hb H0 HL HT0 HV
  go_wp2_with fail
  go_loopw [4] (fun i wr => ∃ k : Nat, k ≤ n ∧ i = .int .i64 k ∧ Blk wr w.heap.size 47 (viewA (iterV k v)) ∧ TabW wr ∧ Below w.heap.size w wr) (fun i _ => n - (intOf i).toNat)
  case atStart => exact ⟨0, by omega, rfl, HB1.out, HT1.out, HL1.out⟩
  case round =>
    obtain ⟨k, hk, rfl, hB, hT, hL⟩ := hrel
    clear HL1 HB1 HT1
    have hu := right_iter k HR.out
    have hs := iter_succ k v
    have hrest : restB (iterV k v) = decide (k = n) := by
      by_cases e : k = n
      · subst e; rw [K2.out]; simp
      · rw [K1.out k (by omega)]; simp [e]
    have H := Lib.hid hB
    have HS := Lib.hid hs
    have HT := Lib.hid hT
    have HL := Lib.hid hL
    clear hB hs hT hL
    obtain ⟨u, hu0⟩ : ∃ u : Vw, u = iterV k v := ⟨_, rfl⟩
    rw [← hu0] at hu hrest H HS
    clear hu0
    go_wp2_with (refine wpList_load_at rfl 47 _ rfl H.out 19 (viewV u) rfl _ Tryd.underlying47 rfl (by kernel_rfl) (Nat.le_of_ble_eq_true rfl) rfl ?_)
    refine (decide_yes u hu _ HT.out).mono ?_
    rintro e w2 ⟨rfl, hb⟩
    have H2 := Lib.hid (((H.out.after hb).alloc (.cells z4 24)).alloc (.cells z4 24))
    have HT2 := Lib.hid (((HT.out.after hb).alloc (.cells z4 24)).alloc (.cells z4 24))
    have HL2 := Lib.hid (((below_then HL.out HL.out.size hb).alloc (below_then HL.out HL.out.size hb).size (.cells z4 24)).alloc (by have := (below_then HL.out HL.out.size hb).size; simp; omega) (.cells z4 24))
    have hN2 := (H.out.after hb).lt
    have HN := Lib.hid ((Blk.new w2 24 z4).alloc (.cells z4 24))
    have HM := Lib.hid (show Blk ((w2.alloc (.cells z4 24)).alloc (.cells z4 24)) (w2.heap.size + 1) 24 z4 from Blk.new' (by simp))
    clear hb H HT HL
    have hz := wn_zero_iff (onS u)
    have hy := wn_zero_iff (offS u)
    unfold restB at hrest
    have hg := HT2.out.lt
    by_cases a : onS u = emptyS
    · by_cases b : offS u = emptyS
      · rw [decide_eq_true a] at hz hrest
        rw [decide_eq_true b] at hy hrest
        have hkn : k = n := by simpa using hrest
        clear hrest a b
        subst hkn
        go_wp2_with (first
          | (refine wpList_store_at rfl 24 _ _ rfl HN.out (nsV (onS u)) rfl rfl (by kernel_rfl) (Nat.le_of_ble_eq_true rfl) (by kernel_rfl) ?_; intro w3 hB3 hP3; have HN3 := Lib.hid (show Blk w3 _ 24 (nsA (onS u)) from hB3); have HM3 := Lib.hid (HM.out.put hP3 (by omega)); have HL3 := Lib.hid (below_put HL2.out hP3 (by omega)); clear hB3 hP3 HN HM HL2)
          | (refine wpList_store_at rfl 24 _ _ rfl HM3.out (nsV (offS u)) rfl rfl (by kernel_rfl) (Nat.le_of_ble_eq_true rfl) (by kernel_rfl) ?_; intro w4 hB4 hP4; obtain ⟨p1, p2, p3⟩ := (show Blk w4 _ 24 (nsA (offS u)) from hB4).rules; obtain ⟨q1, q2, q3⟩ := (HN3.out.put hP4 (by omega)).rules; have HL4 := Lib.hid (below_put HL3.out hP4 (by omega)); clear hB4 hP4 HN3 HM3 HL3))
        go_ret2
        exact ⟨rfl, HL4.out⟩
      · rw [decide_eq_true a] at hz hrest
        rw [decide_eq_false b] at hy hrest
        have hkn : k ≠ n := by simpa using hrest
        clear hrest a b
        go_wp2_with (first
          | (refine wpList_store_at rfl 24 _ _ rfl HN.out (nsV (onS u)) rfl rfl (by kernel_rfl) (Nat.le_of_ble_eq_true rfl) (by kernel_rfl) ?_; intro w3 hB3 hP3; have HN3 := Lib.hid (show Blk w3 _ 24 (nsA (onS u)) from hB3); have HM3 := Lib.hid (HM.out.put hP3 (by omega)); have H3 := Lib.hid (H2.out.put hP3 (by omega)); have HT3 := Lib.hid (HT2.out.below (hP3.below (Nat.le_refl _)) (by omega)); have HL3 := Lib.hid (below_put HL2.out hP3 (by omega)); clear hB3 hP3 HN HM HL2 H2 HT2)
          | (refine wpList_store_at rfl 24 _ _ rfl HM3.out (nsV (offS u)) rfl rfl (by kernel_rfl) (Nat.le_of_ble_eq_true rfl) (by kernel_rfl) ?_; intro w4 hB4 hP4; obtain ⟨p1, p2, p3⟩ := (show Blk w4 _ 24 (nsA (offS u)) from hB4).rules; obtain ⟨q1, q2, q3⟩ := (HN3.out.put hP4 (by omega)).rules; have H4 := Lib.hid (H3.out.put hP4 (by omega)); have HT4 := Lib.hid (HT3.out.below (hP4.below (Nat.le_refl _)) (by omega)); have HL4 := Lib.hid (below_put HL3.out hP4 (by omega)); clear hB4 hP4 HN3 HM3 HL3 H3 HT3)
          | (refine wpList_load_at rfl 47 _ rfl H4.out 19 (viewV u) rfl _ Tryd.underlying47 rfl (by kernel_rfl) (Nat.le_of_ble_eq_true rfl) rfl ?_))
        refine (after_c u (onS u) (offS u) _).mono ?_
        rintro e w5 ⟨rfl, hb⟩
        have H5 := Lib.hid (H4.out.after hb)
        have HT5 := Lib.hid (HT4.out.after hb)
        have HL5 := Lib.hid (below_then HL4.out HL4.out.size hb)
        clear hb H4 HT4 HL4 p1 p2 p3 q1 q2 q3
        go_wp2_with (refine wpList_store_at rfl 47 _ _ rfl H5.out (viewV (afterV u (onS u) (offS u))) rfl rfl (by kernel_rfl) (Nat.le_of_ble_eq_true rfl) (by kernel_rfl) ?_; intro w6 hB6 hP6; have H6 := Lib.hid (show Blk w6 w.heap.size 47 (viewA (stepV u)) from hB6); have HT6 := Lib.hid (HT5.out.below (hP6.below (Nat.le_refl _)) (by omega)); have HL6 := Lib.hid (below_put HL5.out hP6 (Nat.le_refl _)); clear hB6 hP6 H5 HT5 HL5)
        go_roundw
        case rel => exact ⟨k + 1, by omega, by go_num, by rw [HS.out]; exact H6.out, HT6.out, HL6.out⟩
        case measure => simp [intOf]; omega
    · rw [decide_eq_false a] at hz hrest
      rw [Bool.false_and] at hrest
      have hkn : k ≠ n := by simpa using hrest
      clear hrest a hy
      go_wp2_with (first
        | (refine wpList_store_at rfl 24 _ _ rfl HN.out (nsV (onS u)) rfl rfl (by kernel_rfl) (Nat.le_of_ble_eq_true rfl) (by kernel_rfl) ?_; intro w3 hB3 hP3; have HN3 := Lib.hid (show Blk w3 _ 24 (nsA (onS u)) from hB3); have HM3 := Lib.hid (HM.out.put hP3 (by omega)); have H3 := Lib.hid (H2.out.put hP3 (by omega)); have HT3 := Lib.hid (HT2.out.below (hP3.below (Nat.le_refl _)) (by omega)); have HL3 := Lib.hid (below_put HL2.out hP3 (by omega)); clear hB3 hP3 HN HM HL2 H2 HT2)
        | (refine wpList_store_at rfl 24 _ _ rfl HM3.out (nsV (offS u)) rfl rfl (by kernel_rfl) (Nat.le_of_ble_eq_true rfl) (by kernel_rfl) ?_; intro w4 hB4 hP4; obtain ⟨p1, p2, p3⟩ := (show Blk w4 _ 24 (nsA (offS u)) from hB4).rules; obtain ⟨q1, q2, q3⟩ := (HN3.out.put hP4 (by omega)).rules; have H4 := Lib.hid (H3.out.put hP4 (by omega)); have HT4 := Lib.hid (HT3.out.below (hP4.below (Nat.le_refl _)) (by omega)); have HL4 := Lib.hid (below_put HL3.out hP4 (by omega)); clear hB4 hP4 HN3 HM3 HL3 H3 HT3)
        | (refine wpList_load_at rfl 47 _ rfl H4.out 19 (viewV u) rfl _ Tryd.underlying47 rfl (by kernel_rfl) (Nat.le_of_ble_eq_true rfl) rfl ?_))
      refine (after_c u (onS u) (offS u) _).mono ?_
      rintro e w5 ⟨rfl, hb⟩
      have H5 := Lib.hid (H4.out.after hb)
      have HT5 := Lib.hid (HT4.out.after hb)
      have HL5 := Lib.hid (below_then HL4.out HL4.out.size hb)
      clear hb H4 HT4 HL4 p1 p2 p3 q1 q2 q3
      go_wp2_with (refine wpList_store_at rfl 47 _ _ rfl H5.out (viewV (afterV u (onS u) (offS u))) rfl rfl (by kernel_rfl) (Nat.le_of_ble_eq_true rfl) (by kernel_rfl) ?_; intro w6 hB6 hP6; have H6 := Lib.hid (show Blk w6 w.heap.size 47 (viewA (stepV u)) from hB6); have HT6 := Lib.hid (HT5.out.below (hP6.below (Nat.le_refl _)) (by omega)); have HL6 := Lib.hid (below_put HL5.out hP6 (Nat.le_refl _)); clear hB6 hP6 H5 HT5 HL5)
      go_roundw
      case rel => exact ⟨k + 1, by omega, by go_num, by rw [HS.out]; exact H6.out, HT6.out, HL6.out⟩
      case measure => simp [intOf]; omega
end Go.Proofs.YtmhbblkihjmonaaDoor
