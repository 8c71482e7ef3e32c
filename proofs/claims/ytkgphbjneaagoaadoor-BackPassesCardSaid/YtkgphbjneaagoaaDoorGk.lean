/- Back: small, alive. -/
import Derived.Test.YtkgphbjneaagoaaDoorGh
import Derived.Test.YtkgphbjneaagoaaDoorGi
import Derived.Test.YtkgphbjneaagoaaDoorGj
set_option linter.unusedVariables false
set_option maxRecDepth 100000
namespace Go.Proofs.YtkgphbjneaagoaaDoor
open Go.RowKit Go.Sort

theorem scV_small (A B : Option Addr) (n c m d : Nat) : scV 0 k3 A n c B m d = .agg #[.int .i64 0, .int .u64 3, .int .u64 0, .int .u64 0, .int .u64 0, .slice A n c, .slice B m d] := by kernel_rfl
theorem smR_flat : (#[.int .u64 1, .int .u64 0, .int .u64 0, .int .u64 0, .int .i64 10] : Array Value) = (smR.flatMap ruL).toArray := by kernel_rfl
theorem smW_flat : (#[.int .i64 1, .int .i64 2, .int .i64 5, .int .u64 3, .int .u64 0, .int .u64 0, .int .u64 0, .int .i64 2, .int .i64 1, .int .i64 10, .int .u64 3, .int .u64 0, .int .u64 0, .int .u64 0, .int .i64 3, .int .i64 1, .int .i64 20, .int .u64 3, .int .u64 0, .int .u64 0, .int .u64 0] : Array Value) = (smW.flatMap wiL).toArray := by kernel_rfl
set_option maxHeartbeats 8000000 in
theorem small_c (w : World) : Calls Tryd.prog 25 #[] w fun e w' => ∃ A c B d, e = .returned (scV 0 k3 A 1 c B 3 d) ∧ RdR w' A 1 smR ∧ RdW w' B 3 smW ∧ Below w.heap.size w w' := by
  go_enter Tryd.func25, Tryd.ntmps25
  have HS0 := Lib.hid (Ms.nil w noB)
  go_wp2_with (first
    | (have hq := HS0; clear hq; (with_reducible refine atAlloc ?_); refine wpList_alloc_b rfl (some 0) rfl 28 (#[.int .i64 0, .int .u64 0, .int .u64 0, .int .u64 0, .int .u64 0, .slice none 0 0, .slice none 0 0]) (by kernel_rfl) ?_; intro g1 W1 hb hB hg; have HS1 := Lib.hid (HS0.out.new hb hB hg); clear hb hB hg HS0)
    | (have hq := HS1; clear hq; (with_reducible refine atAlloc ?_); refine wpList_alloc_b rfl (some 1) rfl 24 (#[.int .u64 0, .int .u64 0, .int .u64 0, .int .u64 0]) (by kernel_rfl) ?_; intro g2 W2 hb hB hg; have HS2 := Lib.hid (HS1.out.new hb hB hg); clear hb hB hg HS1)
    | (have hq := HS2; clear hq; (with_reducible refine atStore ?_); refine wpList_store_at rfl 24 _ _ rfl (HS2.out.at_ 1 rfl) (.agg #[.int .u64 3, .int .u64 0, .int .u64 0, .int .u64 0]) rfl rfl (by kernel_rfl) (Nat.le_of_ble_eq_true rfl) (by kernel_rfl) ?_; intro W3 hB hP; have HS3 := Lib.hid (HS2.out.put 1 rfl (new := #[.int .u64 3, .int .u64 0, .int .u64 0, .int .u64 0]) hB hP); clear hB hP HS2)
    | (have hq := HS3; clear hq; (with_reducible refine atLoad ?_); refine wpList_load_at rfl 24 _ rfl (HS3.out.at_ 1 rfl) 4 (.agg #[.int .u64 3, .int .u64 0, .int .u64 0, .int .u64 0]) rfl _ Tryd.underlying24 rfl (by kernel_rfl) (Nat.le_of_ble_eq_true rfl) rfl ?_)
    | (have hq := HS3; clear hq; (with_reducible refine atBuild ?_); refine wpList_build_b rfl (some 6) rfl 55 1 (#[.int .u64 1, .int .u64 0, .int .u64 0, .int .u64 0, .int .i64 10]) (by kernel_rfl) ?_; intro g4 W4 hb hB hg; have HS4 := Lib.hid (HS3.out.new hb hB hg); clear hb hB hg HS3)
    | (have hq := HS4; clear hq; (with_reducible refine atLoad ?_); refine wpList_load_at rfl 24 _ rfl (HS4.out.at_ 1 rfl) 4 (.agg #[.int .u64 3, .int .u64 0, .int .u64 0, .int .u64 0]) rfl _ Tryd.underlying24 rfl (by kernel_rfl) (Nat.le_of_ble_eq_true rfl) rfl ?_)
    | (have hq := HS4; clear hq; (with_reducible refine atLoad ?_); refine wpList_load_at rfl 24 _ rfl (HS4.out.at_ 1 rfl) 4 (.agg #[.int .u64 3, .int .u64 0, .int .u64 0, .int .u64 0]) rfl _ Tryd.underlying24 rfl (by kernel_rfl) (Nat.le_of_ble_eq_true rfl) rfl ?_)
    | (have hq := HS4; clear hq; (with_reducible refine atLoad ?_); refine wpList_load_at rfl 24 _ rfl (HS4.out.at_ 1 rfl) 4 (.agg #[.int .u64 3, .int .u64 0, .int .u64 0, .int .u64 0]) rfl _ Tryd.underlying24 rfl (by kernel_rfl) (Nat.le_of_ble_eq_true rfl) rfl ?_)
    | (have hq := HS4; clear hq; (with_reducible refine atBuild ?_); refine wpList_build_b rfl (some 13) rfl 49 3 (#[.int .i64 1, .int .i64 2, .int .i64 5, .int .u64 3, .int .u64 0, .int .u64 0, .int .u64 0, .int .i64 2, .int .i64 1, .int .i64 10, .int .u64 3, .int .u64 0, .int .u64 0, .int .u64 0, .int .i64 3, .int .i64 1, .int .i64 20, .int .u64 3, .int .u64 0, .int .u64 0, .int .u64 0]) (by kernel_rfl) ?_; intro g5 W5 hb hB hg; have HS5 := Lib.hid (HS4.out.new hb hB hg); clear hb hB hg HS4)
    | (have hq := HS5; clear hq; (with_reducible refine atStore ?_); refine wpList_store_at rfl 28 _ _ rfl (HS5.out.at_ 0 rfl) (.agg #[.int .i64 0, .int .u64 3, .int .u64 0, .int .u64 0, .int .u64 0, .slice (some ⟨g4, 0, none⟩) 1 1, .slice (some ⟨g5, 0, none⟩) 3 3]) rfl rfl (by kernel_rfl) (Nat.le_of_ble_eq_true rfl) (by kernel_rfl) ?_; intro W6 hB hP; have HS6 := Lib.hid (HS5.out.put 0 rfl (new := #[.int .i64 0, .int .u64 3, .int .u64 0, .int .u64 0, .int .u64 0, .slice (some ⟨g4, 0, none⟩) 1 1, .slice (some ⟨g5, 0, none⟩) 3 3]) hB hP); clear hB hP HS5))
  exact post_cell rfl rfl (HS6.out.at_ 0 rfl) Tryd.underlying28 rfl (by kernel_rfl) rfl ⟨_, _, _, _, by rw [scV_small], rds_blk (k := 5) (c := ruL) (l := smR) (fun _ => rfl) (HS6.out.at_ 2 rfl) (by decide) smR_flat, rds_blk (k := 7) (c := wiL) (l := smW) (fun _ => rfl) (HS6.out.at_ 3 rfl) (by decide) smW_flat, HS6.out.below⟩
set_option maxHeartbeats 16000000 in
theorem alive_c (w : World) (hT : TabW w) : Calls Tryd.prog 10 #[] w fun e w' => e = .returned (.bool true) ∧ Below w.heap.size w w' := by
  have HTab := Lib.hid hT
  clear hT
  go_enter Tryd.func10, Tryd.ntmps10
  have HS0 := Lib.hid (Ms.nil w noB)
  go_wp2_with fail
  refine (small_c _).mono ?_
  rintro e W1 ⟨A1, c1, B1, d1, rfl, hA1, hB1, hb⟩
  have HS1 := Lib.hid (HS0.out.after hb)
  clear hb HS0
  have HA1 := Lib.hid hA1
  have HB1 := Lib.hid hB1
  clear hA1 hB1
  have HW1 := Lib.hid HS1.out
  go_wp2_with fail
  refine (theirs_c 0 k3 A1 1 c1 smR B1 3 d1 smW _ HA1.out HB1.out (by decide) (by decide)).mono ?_
  rintro e W2 ⟨A2, c2, B2, d2, rfl, hA2, hB2, hb⟩
  have HS2 := Lib.hid (HS1.out.after hb)
  clear hb HS1
  have HA2 := Lib.hid hA2
  have HB2 := Lib.hid hB2
  clear hA2 hB2
  go_wp2_with fail
  refine (pass_yes 0 k3 A2 1 c2 smR B2 3 d2 smW 1 _ HA2.out HB2.out (by decide) small_right (by decide) (by decide) (HTab.out.after HS2.out.below)).mono ?_
  rintro e W3 ⟨As, cs, Ap, cp, rfl, hRs, hcs, hRp, hcp, hb, hM0⟩
  have HS3 := Lib.hid (HS2.out.after hb)
  clear hb HS2
  rw [small_pass.1] at hRs ⊢
  rw [small_pass.2] at hRp ⊢
  obtain ⟨ad, x, hAe, hx, hc⟩ := hRs.at_ (i := 0) (by decide)
  obtain ⟨bd, y, hBe, hy, hd⟩ := hRp.at_ (i := 0) (by decide)
  subst hAe
  subst hBe
  obtain rfl : x = ⟨2, 0, k2⟩ := by simpa using hx.symm
  obtain rfl : y = ⟨1, 10, k3⟩ := by simpa using hy.symm
  have e0 := hc 0 _ rfl
  have e1 := hc 1 _ rfl
  have f0 := hd 0 _ rfl
  have f1 := hd 1 _ rfl
  simp [Addr.add] at e0 e1 f0 f1
  clear hM0 hRs hcs hRp hcp hx hy hc hd
  go_wp2_with fail
  go_ret
  exact ⟨rfl, HS3.out.below⟩
end Go.Proofs.YtkgphbjneaagoaaDoor
