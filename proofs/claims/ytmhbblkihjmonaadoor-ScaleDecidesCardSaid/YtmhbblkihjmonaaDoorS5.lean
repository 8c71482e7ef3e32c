/- Scale: After, the program's and the document's. -/
import Derived.Test.YtmhbblkihjmonaaDoorS4
import Derived.Test.YtmhbblkihjmonaaDoorSp
import Derived.Test.YtmhbblkihjmonaaDoorSt
set_option linter.unusedVariables false
namespace Go.Proofs.YtmhbblkihjmonaaDoor
open Go.RowKit Go.Sort

abbrev z19 : Array Value := #[.int .u64 0, .int .u64 0, .int .u64 0, .int .u64 0, .int .u64 0, .int .u64 0, .int .u64 0, .int .u64 0, .int .u64 0, .int .u64 0, .int .u64 0, .int .u64 0, .int .u64 0, .int .u64 0, .int .u64 0, .int .u64 0, .int .i64 0, .int .i64 0, .int .i64 0]

abbrev aftS (w : World) (v : Vw) (on off : NS) : World → Prop := fun W => Blk W w.heap.size 47 (viewA v) ∧ Blk W (w.heap.size + 1) 24 (nsA on) ∧ Blk W (w.heap.size + 1 + 1) 24 (nsA off) ∧ Blk W (w.heap.size + 1 + 1 + 1) 47 z19 ∧ Below w.heap.size w W
theorem aftS_after {w W W' : World} {v : Vw} {on off : NS} (h : aftS w v on off W) (hb : Below W.heap.size W W') : aftS w v on off W' := ⟨h.1.after hb, h.2.1.after hb, h.2.2.1.after hb, h.2.2.2.1.after hb, below_then h.2.2.2.2 h.2.2.2.2.size hb⟩
theorem aftS_put {w W W' : World} {v v' : Vw} {on off : NS} (h : aftS w v on off W) (hB : Blk W' w.heap.size 47 (viewA v')) (hp : Put W W' w.heap.size) : aftS w v' on off W' := ⟨hB, h.2.1.put hp (by omega), h.2.2.1.put hp (by omega), h.2.2.2.1.put hp (by omega), below_put h.2.2.2.2 hp (Nat.le_refl _)⟩
theorem aftS_new {w : World} (v : Vw) (on off : NS) : aftS w v on off ((((w.alloc (.cells (viewA v) 47)).alloc (.cells (nsA on) 24)).alloc (.cells (nsA off) 24)).alloc (.cells z19 47)) :=
  ⟨(((Blk.new w 47 (viewA v)).alloc _).alloc _).alloc _, ((Blk.new' (by simp)).alloc _).alloc _, (Blk.new' (by simp)).alloc _, Blk.new' (by simp), ((((Below.refl w.heap.size w).alloc (by simp) _).alloc (by simp) _).alloc (by simp; omega) _).alloc (by simp; omega) _⟩
set_option maxHeartbeats 4000000 in
theorem after_c (v : Vw) (on off : NS) (w : World) : Calls Tryd.prog 46 #[viewV v, nsV on, nsV off] w fun e w' => e = .returned (viewV (afterV v on off)) ∧ Below w.heap.size w w' := by
  have H0 := Lib.hid (aftS_new (w := w) v on off)
  go_enter Tryd.func46, Tryd.ntmps46
  go_wp2_with fail
  refine region_bt 7 (aftS w v on off) (by kernel_rfl) (by kernel_rfl) H0.out ?_
  clear H0
  intro W hS
  have r1 := cells_on hS.1.cell hS.1.lt
  have r2 := cells_on hS.2.1.cell hS.2.1.lt
  have r3 := cells_on hS.2.2.1.cell hS.2.2.1.lt
  have HS := Lib.hid hS
  clear hS
  simp only [List.take_succ_cons, List.take_zero, List.drop_succ_cons, List.drop_zero]
  repeat (quiet_step (first | with_reducible exact Calls.regrown_of (not_c _ _ _) | with_reducible exact Calls.regrown_of (or_c _ _ _)))
  refine wpQuiet_nil ?_
  intro w1 hb
  have H1 := Lib.hid (aftS_after HS.out hb)
  clear hb HS r1 r2 r3
  obtain ⟨v1, hv1⟩ : ∃ v1 : Vw, v1 = { v with off := notS v.off on ||| off } := ⟨_, rfl⟩
  have HV1 := Lib.hid hv1
  clear hv1
  go_wp2_with (refine wpList_store_at rfl 24 _ _ rfl H1.out.1 (nsV (notS v.off on ||| off)) rfl rfl (by kernel_rfl) (Nat.le_of_ble_eq_true rfl) (by kernel_rfl) ?_; intro w2 hB hP; have H2 := Lib.hid (aftS_put (v' := v1) H1.out (by rw [HV1.out]; exact hB) hP); clear hB hP H1)
  refine region_bt 7 (aftS w v1 on off) (by kernel_rfl) (by kernel_rfl) H2.out ?_
  clear H2
  intro W hS
  have r1 := cells_on hS.1.cell hS.1.lt
  have r2 := cells_on hS.2.1.cell hS.2.1.lt
  have r3 := cells_on hS.2.2.1.cell hS.2.2.1.lt
  have HS := Lib.hid hS
  clear hS
  simp only [List.take_succ_cons, List.take_zero, List.drop_succ_cons, List.drop_zero]
  repeat (quiet_step (first | with_reducible exact Calls.regrown_of (not_c _ _ _) | with_reducible exact Calls.regrown_of (or_c _ _ _)))
  refine wpQuiet_nil ?_
  intro w3 hb
  have H3 := Lib.hid (aftS_after HS.out hb)
  clear hb HS r1 r2 r3
  obtain ⟨v2, hv2⟩ : ∃ v2 : Vw, v2 = { v1 with pow := notS (v1.pow ||| on) off } := ⟨_, rfl⟩
  have HV2 := Lib.hid hv2
  clear hv2
  go_wp2_with (refine wpList_store_at rfl 24 _ _ rfl H3.out.1 (nsV (notS (v1.pow ||| on) off)) rfl rfl (by kernel_rfl) (Nat.le_of_ble_eq_true rfl) (by kernel_rfl) ?_; intro w4 hB hP; have H4 := Lib.hid (aftS_put (v' := v2) H3.out (by rw [HV2.out]; exact hB) hP); clear hB hP H3; obtain ⟨p1, p2, p3⟩ := H4.out.1.rules; obtain ⟨q1, q2, q3⟩ := H4.out.2.2.1.rules)
  refine (not_c v2.old off _).mono ?_
  rintro e w5 ⟨rfl, hb⟩
  have H5 := Lib.hid (aftS_after H4.out hb)
  clear hb H4 p1 p2 p3 q1 q2 q3
  obtain ⟨v3, hv3⟩ : ∃ v3 : Vw, v3 = { v2 with old := notS v2.old off } := ⟨_, rfl⟩
  have HV3 := Lib.hid hv3
  clear hv3
  go_wp2_with (first
    | (refine wpList_store_at rfl 24 _ _ rfl H5.out.1 (nsV (notS v2.old off)) rfl rfl (by kernel_rfl) (Nat.le_of_ble_eq_true rfl) (by kernel_rfl) ?_; intro w6 hB hP; have H6 := Lib.hid (aftS_put (v' := v3) H5.out (by rw [HV3.out]; exact hB) hP); clear hB hP H5)
    | (refine wpList_load_at rfl 47 _ rfl H6.out.1 19 (viewV v3) rfl _ Tryd.underlying47 rfl (by kernel_rfl) (Nat.le_of_ble_eq_true rfl) rfl ?_)
    | (refine wpList_store_at rfl 47 _ _ rfl H6.out.2.2.2.1 (viewV v3) rfl rfl (by kernel_rfl) (Nat.le_of_ble_eq_true rfl) (by kernel_rfl) ?_; intro w7 hB hP; have H7 := Lib.hid (show Blk w7 (w.heap.size + 1 + 1 + 1) 47 (viewA v3) from hB); have H8 := Lib.hid (below_put H6.out.2.2.2.2 hP (by omega)); clear hB hP H6))
  have e3 : v3 = afterV v on off := by rw [HV3.out, HV2.out, HV1.out]; rfl
  rw [← e3]
  exact post_cell rfl rfl H7.out Tryd.underlying47 rfl (by kernel_rfl) rfl ⟨rfl, H8.out⟩

abbrev aftR (w : World) (v : Vw) (on off : NS) : World → Prop := fun W => Blk W w.heap.size 43 (viewA v) ∧ Blk W (w.heap.size + 1) 24 (nsA on) ∧ Blk W (w.heap.size + 1 + 1) 24 (nsA off) ∧ Blk W (w.heap.size + 1 + 1 + 1) 43 z19 ∧ Below w.heap.size w W
theorem aftR_after {w W W' : World} {v : Vw} {on off : NS} (h : aftR w v on off W) (hb : Below W.heap.size W W') : aftR w v on off W' := ⟨h.1.after hb, h.2.1.after hb, h.2.2.1.after hb, h.2.2.2.1.after hb, below_then h.2.2.2.2 h.2.2.2.2.size hb⟩
theorem aftR_put {w W W' : World} {v v' : Vw} {on off : NS} (h : aftR w v on off W) (hB : Blk W' w.heap.size 43 (viewA v')) (hp : Put W W' w.heap.size) : aftR w v' on off W' := ⟨hB, h.2.1.put hp (by omega), h.2.2.1.put hp (by omega), h.2.2.2.1.put hp (by omega), below_put h.2.2.2.2 hp (Nat.le_refl _)⟩
theorem aftR_new {w : World} (v : Vw) (on off : NS) : aftR w v on off ((((w.alloc (.cells (viewA v) 43)).alloc (.cells (nsA on) 24)).alloc (.cells (nsA off) 24)).alloc (.cells z19 43)) :=
  ⟨(((Blk.new w 43 (viewA v)).alloc _).alloc _).alloc _, ((Blk.new' (by simp)).alloc _).alloc _, (Blk.new' (by simp)).alloc _, Blk.new' (by simp), ((((Below.refl w.heap.size w).alloc (by simp) _).alloc (by simp) _).alloc (by simp; omega) _).alloc (by simp; omega) _⟩
set_option maxHeartbeats 4000000 in
theorem rafter_c (v : Vw) (on off : NS) (w : World) : Calls Tryd.prog 50 #[viewV v, nsV on, nsV off] w fun e w' => e = .returned (viewV (afterV v on off)) ∧ Below w.heap.size w w' := by
  have H0 := Lib.hid (aftR_new (w := w) v on off)
  go_enter Tryd.func50, Tryd.ntmps50
  go_wp2_with fail
  refine region_bt 7 (aftR w v on off) (by kernel_rfl) (by kernel_rfl) H0.out ?_
  clear H0
  intro W hS
  have r1 := cells_on hS.1.cell hS.1.lt
  have r2 := cells_on hS.2.1.cell hS.2.1.lt
  have r3 := cells_on hS.2.2.1.cell hS.2.2.1.lt
  have HS := Lib.hid hS
  clear hS
  simp only [List.take_succ_cons, List.take_zero, List.drop_succ_cons, List.drop_zero]
  repeat (quiet_step (first | with_reducible exact Calls.regrown_of (rnot_c _ _ _) | with_reducible exact Calls.regrown_of (ror_c _ _ _)))
  refine wpQuiet_nil ?_
  intro w1 hb
  have H1 := Lib.hid (aftR_after HS.out hb)
  clear hb HS r1 r2 r3
  obtain ⟨v1, hv1⟩ : ∃ v1 : Vw, v1 = { v with off := notS v.off on ||| off } := ⟨_, rfl⟩
  have HV1 := Lib.hid hv1
  clear hv1
  go_wp2_with (refine wpList_store_at rfl 24 _ _ rfl H1.out.1 (nsV (notS v.off on ||| off)) rfl rfl (by kernel_rfl) (Nat.le_of_ble_eq_true rfl) (by kernel_rfl) ?_; intro w2 hB hP; have H2 := Lib.hid (aftR_put (v' := v1) H1.out (by rw [HV1.out]; exact hB) hP); clear hB hP H1)
  refine region_bt 7 (aftR w v1 on off) (by kernel_rfl) (by kernel_rfl) H2.out ?_
  clear H2
  intro W hS
  have r1 := cells_on hS.1.cell hS.1.lt
  have r2 := cells_on hS.2.1.cell hS.2.1.lt
  have r3 := cells_on hS.2.2.1.cell hS.2.2.1.lt
  have HS := Lib.hid hS
  clear hS
  simp only [List.take_succ_cons, List.take_zero, List.drop_succ_cons, List.drop_zero]
  repeat (quiet_step (first | with_reducible exact Calls.regrown_of (rnot_c _ _ _) | with_reducible exact Calls.regrown_of (ror_c _ _ _)))
  refine wpQuiet_nil ?_
  intro w3 hb
  have H3 := Lib.hid (aftR_after HS.out hb)
  clear hb HS r1 r2 r3
  obtain ⟨v2, hv2⟩ : ∃ v2 : Vw, v2 = { v1 with pow := notS (v1.pow ||| on) off } := ⟨_, rfl⟩
  have HV2 := Lib.hid hv2
  clear hv2
  go_wp2_with (refine wpList_store_at rfl 24 _ _ rfl H3.out.1 (nsV (notS (v1.pow ||| on) off)) rfl rfl (by kernel_rfl) (Nat.le_of_ble_eq_true rfl) (by kernel_rfl) ?_; intro w4 hB hP; have H4 := Lib.hid (aftR_put (v' := v2) H3.out (by rw [HV2.out]; exact hB) hP); clear hB hP H3; obtain ⟨p1, p2, p3⟩ := H4.out.1.rules; obtain ⟨q1, q2, q3⟩ := H4.out.2.2.1.rules)
  refine (rnot_c v2.old off _).mono ?_
  rintro e w5 ⟨rfl, hb⟩
  have H5 := Lib.hid (aftR_after H4.out hb)
  clear hb H4 p1 p2 p3 q1 q2 q3
  obtain ⟨v3, hv3⟩ : ∃ v3 : Vw, v3 = { v2 with old := notS v2.old off } := ⟨_, rfl⟩
  have HV3 := Lib.hid hv3
  clear hv3
  go_wp2_with (first
    | (refine wpList_store_at rfl 24 _ _ rfl H5.out.1 (nsV (notS v2.old off)) rfl rfl (by kernel_rfl) (Nat.le_of_ble_eq_true rfl) (by kernel_rfl) ?_; intro w6 hB hP; have H6 := Lib.hid (aftR_put (v' := v3) H5.out (by rw [HV3.out]; exact hB) hP); clear hB hP H5)
    | (refine wpList_load_at rfl 43 _ rfl H6.out.1 19 (viewV v3) rfl _ Tryd.underlying43 rfl (by kernel_rfl) (Nat.le_of_ble_eq_true rfl) rfl ?_)
    | (refine wpList_store_at rfl 43 _ _ rfl H6.out.2.2.2.1 (viewV v3) rfl rfl (by kernel_rfl) (Nat.le_of_ble_eq_true rfl) (by kernel_rfl) ?_; intro w7 hB hP; have H7 := Lib.hid (show Blk w7 (w.heap.size + 1 + 1 + 1) 43 (viewA v3) from hB); have H8 := Lib.hid (below_put H6.out.2.2.2.2 hP (by omega)); clear hB hP H6))
  have e3 : v3 = afterV v on off := by rw [HV3.out, HV2.out, HV1.out]; rfl
  rw [← e3]
  exact post_cell rfl rfl H7.out Tryd.underlying43 rfl (by kernel_rfl) rfl ⟨rfl, H8.out⟩
end Go.Proofs.YtmhbblkihjmonaaDoor
