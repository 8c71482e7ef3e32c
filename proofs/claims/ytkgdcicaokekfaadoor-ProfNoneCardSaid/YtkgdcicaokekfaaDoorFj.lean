/- Prof: alive. -/
import Derived.Test.YtkgdcicaokekfaaDoorFi
set_option linter.unusedVariables false
namespace Go.Proofs.YtkgdcicaokekfaaDoor
open Go.RowKit Go.Sort

abbrev kV (x : Int) : Value := .agg #[.int .u64 x, .int .u64 0, .int .u64 0, .int .u64 0]
theorem new_k3 (w : World) : Calls Tryd.prog 8 #[kV 3, .int .i64 0] w fun e w' => ∃ g, e = .returned (.tuple #[.pointer (some ⟨g, 0, none⟩), .int .i64 0]) ∧ NewP w k3 la0 g w' := by
  have h := newP_yes k3 0 w (by decide) (by decide)
  rw [nsV_k3] at h
  exact h
theorem take_la0 (g : Nat) (A : Option Addr) (c : Nat) (w : World) (h : (Own.pf g k3 A c la0).ok w) : Calls Tryd.prog 19 #[.pointer (some ⟨g, 0, none⟩), kV 1, .int .i64 0, .int .i64 10] w (PfPost w g k3 A c la0 (.int .i64 0) la1) := by
  have h1 := take_c g k3 A c la0 0 0 10 k1 w ((good_one k3).ok h) (good_one k3).len
  rw [nsV_k1, takeE_la0, takeL_la0] at h1
  exact h1
theorem early2_c (g : Nat) (A : Option Addr) (c : Nat) (w : World) (h : (Own.pf g k3 A c la1).ok w) (hT : TabW w) : Calls Tryd.prog 11 #[.pointer (some ⟨g, 0, none⟩), .int .i64 2, .int .i64 5, .int .i64 0, kV 3] w fun e w' => e = .returned (.tuple #[.int .i64 10, kV 3, .int .i64 0]) ∧ Below w.heap.size w w' := by
  have h1 := earliest_c g k3 A c la1 0 2 5 0 k3 w (good_la1.ok h) hT
  rw [nsV_k3] at h1
  exact h1.mono fun e w' ⟨a, b⟩ => ⟨earl_two a, b⟩
theorem early1_c (g : Nat) (A : Option Addr) (c : Nat) (w : World) (h : (Own.pf g k3 A c la1).ok w) (hT : TabW w) : Calls Tryd.prog 11 #[.pointer (some ⟨g, 0, none⟩), .int .i64 1, .int .i64 5, .int .i64 0, kV 3] w fun e w' => e = .returned (.tuple #[.int .i64 0, kV 2, .int .i64 0]) ∧ Below w.heap.size w w' := by
  have h1 := earliest_c g k3 A c la1 0 1 5 0 k3 w (good_la1.ok h) hT
  rw [nsV_k3] at h1
  exact h1.mono fun e w' ⟨a, b⟩ => ⟨earl_one a, b⟩
set_option maxRecDepth 100000 in
set_option maxHeartbeats 8000000 in
theorem alive_c (w : World) (hT : TabW w) : Calls Tryd.prog 12 #[] w fun e w' => e = .returned (.bool true) ∧ Below w.heap.size w w' := by
  have HTab := Lib.hid hT
  clear hT
  have HE3 := Lib.hid (fun w9 => show (Op.equalIn 10000 24 (kV 3) (kV 3)).run Tryd.prog w9 = .ok true w9 from eq_arr _ _ _ _ _ _ _ _ w9)
  have HE2 := Lib.hid (fun w9 => show (Op.equalIn 10000 24 (kV 2) (kV 2)).run Tryd.prog w9 = .ok true w9 from eq_arr _ _ _ _ _ _ _ _ w9)
  go_enter Tryd.func12, Tryd.ntmps12
  have HS0 := Lib.hid (Ms.nil w noB)
  go_wp2_with fail
  refine (new_k3 _).mono ?_
  rintro e W1 ⟨p1, rfl, A1, c1, hM⟩
  have HS1 := Lib.hid (HS0.out.made hM)
  clear hM HS0
  go_wp2_with fail
  refine (take_la0 _ _ _ _ (HS1.out.ok 0 _ rfl)).mono ?_
  rintro e W2 ⟨rfl, A2, c2, hM⟩
  have HS2 := Lib.hid (HS1.out.call 0 rfl hM)
  clear hM HS1
  go_wp2_with fail
  refine (early2_c _ _ _ _ (HS2.out.ok 0 _ rfl) (HTab.out.after HS2.out.below)).mono ?_
  rintro e W3 ⟨rfl, hb⟩
  have HS3 := Lib.hid (HS2.out.after hb)
  clear hb HS2
  go_wp2_with (first
    | (have hq := HS3; clear hq; (with_reducible refine atAlloc ?_); refine wpList_alloc_b rfl (some 4) rfl 24 (#[.int .u64 0, .int .u64 0, .int .u64 0, .int .u64 0]) (by kernel_rfl) ?_; intro g4 W4 hb hB hg; have HS4 := Lib.hid (HS3.out.new hb hB hg); clear hb hB hg HS3)
    | (have hq := HS4; clear hq; (with_reducible refine atStore ?_); refine wpList_store_at rfl 24 _ _ rfl (HS4.out.at_ 1 rfl) (.agg #[.int .u64 3, .int .u64 0, .int .u64 0, .int .u64 0]) rfl rfl (by kernel_rfl) (Nat.le_of_ble_eq_true rfl) (by kernel_rfl) ?_; intro W5 hB hP; have HS5 := Lib.hid (HS4.out.put 1 rfl (new := #[.int .u64 3, .int .u64 0, .int .u64 0, .int .u64 0]) hB hP); clear hB hP HS4))
  refine (early1_c _ _ _ _ (HS5.out.ok 0 _ rfl) (HTab.out.after HS5.out.below)).mono ?_
  rintro e W6 ⟨rfl, hb⟩
  have HS6 := Lib.hid (HS5.out.after hb)
  clear hb HS5
  go_wp2_with (first
    | (have hq := HS6; clear hq; (with_reducible refine atAlloc ?_); refine wpList_alloc_b rfl (some 7) rfl 24 (#[.int .u64 0, .int .u64 0, .int .u64 0, .int .u64 0]) (by kernel_rfl) ?_; intro g7 W7 hb hB hg; have HS7 := Lib.hid (HS6.out.new hb hB hg); clear hb hB hg HS6)
    | (have hq := HS7; clear hq; (with_reducible refine atStore ?_); refine wpList_store_at rfl 24 _ _ rfl (HS7.out.at_ 2 rfl) (.agg #[.int .u64 2, .int .u64 0, .int .u64 0, .int .u64 0]) rfl rfl (by kernel_rfl) (Nat.le_of_ble_eq_true rfl) (by kernel_rfl) ?_; intro W8 hB hP; have HS8 := Lib.hid (HS7.out.put 2 rfl (new := #[.int .u64 2, .int .u64 0, .int .u64 0, .int .u64 0]) hB hP); clear hB hP HS7)
    | (have hq := HS8; clear hq; refine wpList_load_g (by kernel_rfl) 24 _ rfl (HS8.out.at_ 1 rfl) 4 (.agg #[.int .u64 3, .int .u64 0, .int .u64 0, .int .u64 0]) rfl _ Tryd.underlying24 rfl (by kernel_rfl) (Nat.le_of_ble_eq_true rfl) rfl ?_)
    | (have hq := HS8; clear hq; refine wpList_eql (by kernel_rfl) 24 _ _ _ rfl rfl rfl (by kernel_rfl) true (HE3.out _) ?_)
    | (have hq := HS8; clear hq; refine wpList_load_g (by kernel_rfl) 24 _ rfl (HS8.out.at_ 2 rfl) 4 (.agg #[.int .u64 2, .int .u64 0, .int .u64 0, .int .u64 0]) rfl _ Tryd.underlying24 rfl (by kernel_rfl) (Nat.le_of_ble_eq_true rfl) rfl ?_)
    | (have hq := HS8; clear hq; refine wpList_eql (by kernel_rfl) 24 _ _ _ rfl rfl rfl (by kernel_rfl) true (HE2.out _) ?_))
  go_ret
  exact ⟨rfl, HS8.out.below⟩
end Go.Proofs.YtkgdcicaokekfaaDoor
