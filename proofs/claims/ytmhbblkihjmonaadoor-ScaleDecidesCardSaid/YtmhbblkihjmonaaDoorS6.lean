/- Scale: a view handed on. -/
import Derived.Test.YtmhbblkihjmonaaDoorS5
import Derived.Great.BuildSlice
set_option linter.unusedVariables false
namespace Go.Proofs.YtmhbblkihjmonaaDoor
open Go.RowKit Go.Sort

set_option maxHeartbeats 4000000 in
theorem theirs_c (v : Vw) (w : World) : Calls Tryd.prog 41 #[viewV v] w fun e w' => e = .returned (viewV v) ∧ Below w.heap.size w w' := by
  have hB := (Blk.new w 43 (viewA v)).alloc (.cells z19 47)
  have hC : Blk ((w.alloc (.cells (viewA v) 43)).alloc (.cells z19 47)) (w.heap.size + 1) 47 z19 := Blk.new' (by simp)
  have H := Lib.hid hC
  have HL := Lib.hid (((Below.refl w.heap.size w).alloc (Nat.le_refl _) (.cells (viewA v) 43)).alloc (by simp) (.cells z19 47))
  obtain ⟨r1, r2, r3⟩ := hB.rules
  clear hB hC
  go_enter Tryd.func41, Tryd.ntmps41
  go_wp2_with (first
    | (refine wpList_buildTo rfl 47 _ rfl (some 17) rfl (viewA v) (by kernel_rfl) ?_)
    | (refine wpList_store_at rfl 47 _ _ rfl H.out (viewV v) rfl rfl (by kernel_rfl) (Nat.le_of_ble_eq_true rfl) (by kernel_rfl) ?_; intro w6 hB hP; have H2 := Lib.hid (show Blk w6 (w.heap.size + 1) 47 (viewA v) from hB); have H3 := Lib.hid (below_put HL.out hP (by omega)); clear hB hP))
  exact post_cell rfl rfl H2.out Tryd.underlying47 rfl (by kernel_rfl) rfl ⟨rfl, H3.out⟩

set_option maxHeartbeats 4000000 in
theorem ours_c (v : Vw) (w : World) : Calls Tryd.prog 49 #[viewV v] w fun e w' => e = .returned (viewV v) ∧ Below w.heap.size w w' := by
  have hB := (Blk.new w 47 (viewA v)).alloc (.cells z19 43)
  have hC : Blk ((w.alloc (.cells (viewA v) 47)).alloc (.cells z19 43)) (w.heap.size + 1) 43 z19 := Blk.new' (by simp)
  have H := Lib.hid hC
  have HL := Lib.hid (((Below.refl w.heap.size w).alloc (Nat.le_refl _) (.cells (viewA v) 47)).alloc (by simp) (.cells z19 43))
  obtain ⟨r1, r2, r3⟩ := hB.rules
  clear hB hC
  go_enter Tryd.func49, Tryd.ntmps49
  go_wp2_with (first
    | (refine wpList_buildTo rfl 43 _ rfl (some 17) rfl (viewA v) (by kernel_rfl) ?_)
    | (refine wpList_store_at rfl 43 _ _ rfl H.out (viewV v) rfl rfl (by kernel_rfl) (Nat.le_of_ble_eq_true rfl) (by kernel_rfl) ?_; intro w6 hB hP; have H2 := Lib.hid (show Blk w6 (w.heap.size + 1) 43 (viewA v) from hB); have H3 := Lib.hid (below_put HL.out hP (by omega)); clear hB hP))
  exact post_cell rfl rfl H2.out Tryd.underlying43 rfl (by kernel_rfl) rfl ⟨rfl, H3.out⟩
end Go.Proofs.YtmhbblkihjmonaaDoor
