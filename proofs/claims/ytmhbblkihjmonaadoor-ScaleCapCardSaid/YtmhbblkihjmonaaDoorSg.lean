/- Scale: the law ScaleCap: its walk. -/
import Derived.Test.YtmhbblkihjmonaaDoorSd
set_option linter.unusedVariables false
namespace Go.Proofs.YtmhbblkihjmonaaDoor
open Go.RowKit Go.Sort
set_option maxRecDepth 100000 in
set_option maxHeartbeats 8000000 in
theorem scaleCap_no (v : Vw) (hr : rightB v = false) (w : World) (hT : TabW w) : Calls Tryd.prog 11 #[viewV v] w fun e w' => e = .returned (.bool true) ∧ Below w.heap.size w w' := by
  have HS0 := Lib.hid ((St.nil hT).alloc 43 (viewA v))
  clear hT
  go_enter Tryd.func11, Tryd.ntmps11
  go_wp2_with (refine wpList_load_at rfl 43 _ rfl (HS0.out.at_ 0 rfl) 19 (viewV v) rfl _ Tryd.underlying43 rfl (by kernel_rfl) (Nat.le_of_ble_eq_true rfl) rfl ?_)
  refine (theirs_c v _).mono ?_
  rintro e W1 ⟨rfl, hb⟩
  have HS1 := Lib.hid (HS0.out.after hb)
  clear hb HS0
  go_wp2_with fail
  refine (decide_no v hr _).mono ?_
  rintro e W2 ⟨rfl, hb⟩
  have HS2 := Lib.hid (HS1.out.after hb)
  clear hb HS1
  have z0 := wn_empty 0
  have z1 := wn_empty 1
  have z2 := wn_empty 2
  have z3 := wn_empty 3
  go_wp2_with (first
    | (refine wpList_alloc_at rfl (some 3) rfl 24 z4 (by kernel_rfl) ?_; intro g3 W3 hb hB hg; have HS3 := Lib.hid (HS2.out.new hb hB hg); clear hb hB hg HS2)
    | (refine wpList_alloc_at rfl (some 4) rfl 24 z4 (by kernel_rfl) ?_; intro g4 W4 hb hB hg; have HS4 := Lib.hid (HS3.out.new hb hB hg); clear hb hB hg HS3)
    | (refine wpList_store_at rfl 24 _ _ rfl (HS4.out.at_ 1 rfl) (nsV emptyS) rfl rfl (by kernel_rfl) (Nat.le_of_ble_eq_true rfl) (by kernel_rfl) ?_; intro W5 hB hP; have HS5 := Lib.hid (HS4.out.put 1 rfl (new := nsA emptyS) hB hP); clear hB hP HS4)
    | (refine wpList_store_at rfl 24 _ _ rfl (HS5.out.at_ 2 rfl) (nsV emptyS) rfl rfl (by kernel_rfl) (Nat.le_of_ble_eq_true rfl) (by kernel_rfl) ?_; intro W6 hB hP; have HS6 := Lib.hid (HS5.out.put 2 rfl (new := nsA emptyS) hB hP); clear hB hP HS5; obtain ⟨r1a, r1b, r1c⟩ := HS6.out.rules 1 rfl; obtain ⟨r2a, r2b, r2c⟩ := HS6.out.rules 2 rfl)
    | (refine wpList_load_g (by kernel_rfl) 43 _ rfl (HS6.out.at_ 0 rfl) 19 (viewV v) rfl _ Tryd.underlying43 rfl (by kernel_rfl) (Nat.le_of_ble_eq_true rfl) rfl ?_))
  refine (theirs_c v _).mono ?_
  rintro e W7 ⟨rfl, hb⟩
  have HS7 := Lib.hid (HS6.out.after hb)
  clear hb HS6 r1a r1b r1c r2a r2b r2c
  have HR := right_c v
  rw [hr] at HR
  have HR2 := Lib.hid HR
  clear HR
  go_wp2_with fail
  refine (HR2.out _).mono ?_
  rintro e W8 ⟨rfl, hb⟩
  have HS8 := Lib.hid (HS7.out.after hb)
  clear hb HS7
  go_wp2_with fail
  refine (alive19 _ HS8.out.tab).mono ?_
  rintro e W9 ⟨rfl, hb⟩
  have HS9 := Lib.hid (HS8.out.after hb)
  clear hb HS8
  go_wp2
  go_ret
  exact ⟨rfl, HS9.out.below⟩
set_option maxRecDepth 100000 in
set_option maxHeartbeats 8000000 in
theorem scaleCap_yes (v : Vw) (hr : rightB v = true) (w : World) (hT : TabW w) : Calls Tryd.prog 11 #[viewV v] w fun e w' => e = .returned (.bool true) ∧ Below w.heap.size w w' := by
  have HS0 := Lib.hid ((St.nil hT).alloc 43 (viewA v))
  clear hT
  have HK1 := Lib.hid (@law_cap1 v hr)
  have HK4 := Lib.hid (law_cap4 hr)
  have hk2 := law_cap2 hr
  have HRA := right_c (afterV v (onS v) (offS v))
  rw [right_after hr] at HRA
  have HR2 := Lib.hid HRA
  have hf := (right_facts hr).1
  clear HRA
  go_enter Tryd.func11, Tryd.ntmps11
  go_wp2_with (refine wpList_load_at rfl 43 _ rfl (HS0.out.at_ 0 rfl) 19 (viewV v) rfl _ Tryd.underlying43 rfl (by kernel_rfl) (Nat.le_of_ble_eq_true rfl) rfl ?_)
  refine (theirs_c v _).mono ?_
  rintro e W1 ⟨rfl, hb⟩
  have HS1 := Lib.hid (HS0.out.after hb)
  clear hb HS0
  go_wp2_with fail
  refine (decide_yes v hr _ HS1.out.tab).mono ?_
  rintro e W2 ⟨rfl, hb⟩
  have HS2 := Lib.hid (HS1.out.after hb)
  clear hb HS1
  go_wp2_with (first
    | (refine wpList_alloc_at rfl (some 3) rfl 24 z4 (by kernel_rfl) ?_; intro g3 W3 hb hB hg; have HS3 := Lib.hid (HS2.out.new hb hB hg); clear hb hB hg HS2)
    | (refine wpList_alloc_at rfl (some 4) rfl 24 z4 (by kernel_rfl) ?_; intro g4 W4 hb hB hg; have HS4 := Lib.hid (HS3.out.new hb hB hg); clear hb hB hg HS3)
    | (refine wpList_store_at rfl 24 _ _ rfl (HS4.out.at_ 1 rfl) (nsV (onS v)) rfl rfl (by kernel_rfl) (Nat.le_of_ble_eq_true rfl) (by kernel_rfl) ?_; intro W5 hB hP; have HS5 := Lib.hid (HS4.out.put 1 rfl (new := nsA (onS v)) hB hP); clear hB hP HS4)
    | (refine wpList_store_at rfl 24 _ _ rfl (HS5.out.at_ 2 rfl) (nsV (offS v)) rfl rfl (by kernel_rfl) (Nat.le_of_ble_eq_true rfl) (by kernel_rfl) ?_; intro W6 hB hP; have HS6 := Lib.hid (HS5.out.put 2 rfl (new := nsA (offS v)) hB hP); clear hB hP HS5))
  refine region_bl 5 6 (fun _ => .cells z19 47) (St w _) (by kernel_rfl) (by kernel_rfl) (by decide) HS6.out (fun i h1 h2 o ho a w => ?_) ?_
  · obtain rfl : i = 5 := by omega
    simp only [List.getElem?_toArray, List.getElem?_cons_succ, List.getElem?_cons_zero, Option.some.injEq] at ho
    subst ho
    exact ⟨rfl, by kernel_rfl⟩
  clear HS6
  intro W7 hS
  have q1 := hS.on 1 rfl
  have q2 := hS.on 2 rfl
  have q0 := hS.on 0 rfl
  have HS7 := Lib.hid hS
  clear hS
  simp only [List.take_succ_cons, List.take_zero, List.drop_succ_cons, List.drop_zero]
  repeat (first | (refine wpG_load_at (by kernel_rfl) 43 _ rfl (HS7.out.at_ 0 rfl) 19 (viewV v) rfl _ Tryd.underlying43 rfl (by kernel_rfl) (Nat.le_of_ble_eq_true rfl) rfl ?_) | (refine wpG_step (fun K hK => ?_); go_simp; first | (refine hK _ ?_; clear hK K) | (apply Exists.intro; refine ⟨fun _ => ?_, hK _ ?_⟩; (first | with_reducible exact calls_on (theirs_c v _) | with_reducible exact calls_on (after_c v (onS v) (offS v) _)); clear hK K)))
  refine wpG_nil ?_
  intro g6 hg6 W8 hb hA
  have HS8 := Lib.hid (HS7.out.new hb (laid_one hA) hg6.2)
  clear hb hA hg6 HS7 q1 q2 q0
  go_wp2_with (refine wpList_store_at rfl 47 _ _ rfl (HS8.out.at_ 3 rfl) (viewV (afterV v (onS v) (offS v))) rfl rfl (by kernel_rfl) (Nat.le_of_ble_eq_true rfl) (by kernel_rfl) ?_; intro W9 hB hP; have HS9 := Lib.hid (HS8.out.put 3 rfl (new := viewA (afterV v (onS v) (offS v))) hB hP); clear hB hP HS8)
  have hk5 : ∀ w, Calls Tryd.prog 21 #[nsV (onS v), nsV v.off] w fun e w' => e = .returned (nsV emptyS) ∧ Below w.heap.size w w' := fun w => by rw [← law_cap3 v]; exact not_c _ _ _
  have HK5 := Lib.hid hk5
  clear hk5
  have z0 := wn_empty 0
  have z1 := wn_empty 1
  have z2 := wn_empty 2
  have z3 := wn_empty 3
  by_cases hc : (cnt v.pow : Int) ≤ v.cp
  · have hk1 := HK1.out hc
    refine region_b (St w _) (by kernel_rfl) (by kernel_rfl) HS9.out ?_
    clear HS9
    intro W10 hS
    have q0 := hS.on 0 rfl
    have q1 := hS.on 1 rfl
    have q2 := hS.on 2 rfl
    have HS10 := Lib.hid hS
    clear hS
    repeat (first | go_big_quiet_step (first | with_reducible exact Calls.regrown_of (count_c _ _) | with_reducible exact Calls.regrown_of (or_c _ _ _) | with_reducible exact Calls.regrown_of (HK5.out _)) | quiet_step (first | with_reducible exact Calls.regrown_of (count_c _ _) | with_reducible exact Calls.regrown_of (or_c _ _ _) | with_reducible exact Calls.regrown_of (HK5.out _)))
    refine wpQuiet_nil ?_
    intro W11 hb
    have HS11 := Lib.hid (HS10.out.after hb)
    clear hb HS10 q0 q1 q2
    obtain ⟨r1a, r1b, r1c⟩ := HS11.out.rules 1 rfl
    obtain ⟨r2a, r2b, r2c⟩ := HS11.out.rules 2 rfl
    go_wp2_with (refine wpList_load_at rfl 47 _ rfl (HS11.out.at_ 3 rfl) 19 (viewV (afterV v (onS v) (offS v))) rfl _ Tryd.underlying47 rfl (by kernel_rfl) (Nat.le_of_ble_eq_true rfl) rfl ?_)
    refine (HR2.out _).mono ?_
    rintro e W12 ⟨rfl, hb⟩
    have HS12 := Lib.hid (HS11.out.after hb)
    clear hb HS11 r1a r1b r1c r2a r2b r2c
    obtain ⟨r1a, r1b, r1c⟩ := HS12.out.rules 1 rfl
    obtain ⟨r2a, r2b, r2c⟩ := HS12.out.rules 2 rfl
    go_wp2_with fail
    refine (and_c (onS v) (offS v) _).mono ?_
    rw [HK4.out]
    rintro e W13 ⟨rfl, hb⟩
    have HS13 := Lib.hid (HS12.out.after hb)
    clear hb HS12 r1a r1b r1c r2a r2b r2c
    go_wp2_with fail
    refine (alive19 _ HS13.out.tab).mono ?_
    rintro e W14 ⟨rfl, hb⟩
    have HS14 := Lib.hid (HS13.out.after hb)
    clear hb HS13
    go_wp2
    go_ret
    exact ⟨rfl, HS14.out.below⟩
  · have hd : decide ((cnt v.pow : Int) ≤ v.cp) = false := decide_eq_false hc
    have hc2 : v.cp < (cnt v.pow : Int) := by omega
    clear hc
    refine region_b (St w _) (by kernel_rfl) (by kernel_rfl) HS9.out ?_
    clear HS9
    intro W10 hS
    have q0 := hS.on 0 rfl
    have q1 := hS.on 1 rfl
    have q2 := hS.on 2 rfl
    have HS10 := Lib.hid hS
    clear hS
    repeat (first | go_big_quiet_step (first | with_reducible exact Calls.regrown_of (count_c _ _) | with_reducible exact Calls.regrown_of (or_c _ _ _) | with_reducible exact Calls.regrown_of (HK5.out _)) | quiet_step (first | with_reducible exact Calls.regrown_of (count_c _ _) | with_reducible exact Calls.regrown_of (or_c _ _ _) | with_reducible exact Calls.regrown_of (HK5.out _)))
    refine wpQuiet_nil ?_
    intro W11 hb
    have HS11 := Lib.hid (HS10.out.after hb)
    clear hb HS10 q0 q1 q2
    obtain ⟨r1a, r1b, r1c⟩ := HS11.out.rules 1 rfl
    obtain ⟨r2a, r2b, r2c⟩ := HS11.out.rules 2 rfl
    go_wp2_with (refine wpList_load_at rfl 47 _ rfl (HS11.out.at_ 3 rfl) 19 (viewV (afterV v (onS v) (offS v))) rfl _ Tryd.underlying47 rfl (by kernel_rfl) (Nat.le_of_ble_eq_true rfl) rfl ?_)
    refine (HR2.out _).mono ?_
    rintro e W12 ⟨rfl, hb⟩
    have HS12 := Lib.hid (HS11.out.after hb)
    clear hb HS11 r1a r1b r1c r2a r2b r2c
    obtain ⟨r1a, r1b, r1c⟩ := HS12.out.rules 1 rfl
    obtain ⟨r2a, r2b, r2c⟩ := HS12.out.rules 2 rfl
    go_wp2_with fail
    refine (and_c (onS v) (offS v) _).mono ?_
    rw [HK4.out]
    rintro e W13 ⟨rfl, hb⟩
    have HS13 := Lib.hid (HS12.out.after hb)
    clear hb HS12 r1a r1b r1c r2a r2b r2c
    go_wp2_with fail
    refine (alive19 _ HS13.out.tab).mono ?_
    rintro e W14 ⟨rfl, hb⟩
    have HS14 := Lib.hid (HS13.out.after hb)
    clear hb HS13
    go_wp2
    go_ret
    exact ⟨rfl, HS14.out.below⟩
theorem scaleCap_w (v : Vw) (w : World) (hT : TabW w) : Calls Tryd.prog 11 #[viewV v] w fun e w' => e = .returned (.bool true) ∧ Below w.heap.size w w' := by
  cases h : rightB v
  · exact scaleCap_no v h w hT
  · exact scaleCap_yes v h w hT
end Go.Proofs.YtmhbblkihjmonaaDoor
