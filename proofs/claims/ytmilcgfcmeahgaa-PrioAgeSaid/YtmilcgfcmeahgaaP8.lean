/- Prio: Ahead. Printed by gen_p8.py. -/
import Derived.Test.YtmilcgfcmeahgaaP7
set_option linter.unusedVariables false
namespace Go.Proofs.Ytmilcgfcmeahgaa
open Go.RowKit

def ahdB (a b : Fa) (v : We) (now : Int) : Bool := rightF a && (rightF b && mayW v now)
def ahdV (a b : Fa) (v : We) (now : Int) : Bool := ahdB a b v now && decide (ordV a b v now < 0)
def ahdE (a b : Fa) (v : We) (now : Int) : Int := if ahdB a b v now then 0 else 1
theorem ret_bi {a b : Bool} {c d : Int} (h1 : a = b) (h2 : c = d) : Ending.returned (.tuple #[.bool a, .int .i64 c]) = .returned (.tuple #[.bool b, .int .i64 d]) := by rw [h1, h2]
set_option maxRecDepth 100000 in
set_option maxHeartbeats 4000000 in
theorem ahead_c (a b : Fa) (v : We) (now : Int) (w : World) : Calls Try.prog 14 #[fV a, fV b, wV v, .int .i64 now] w fun e w' => e = .returned (.tuple #[.bool (ahdV a b v now), .int .i64 (ahdE a b v now)]) ∧ Below w.heap.size w w' := by
  have HA := Lib.hid (right_c a)
  have HB := Lib.hid (right_c b)
  have HM := Lib.hid (may_c v now)
  have HO := Lib.hid (order_c a b v now)
  cases h1 : rightF a
  · skip
    have E1 := Lib.hid (show ahdV a b v now = false by unfold ahdV ahdB; rw [h1]; simp)
    have E2 := Lib.hid (show ahdE a b v now = 1 by unfold ahdE ahdB; rw [h1]; simp)
    clear HB HM HO
    go_enter Try.func14, Try.ntmps14
    have HS0 := Lib.hid (Bs.nil w)
    go_wp2_with (first
      | (refine wpList_alloc_b rfl (some 4) rfl 29 (fA a) (by kernel_rfl) ?_; intro g1 W1 hb hB hg; have HS1 := Lib.hid (HS0.out.new hb hB hg); clear hb hB hg HS0)
      | (refine wpList_alloc_b rfl (some 5) rfl 29 (fA b) (by kernel_rfl) ?_; intro g2 W2 hb hB hg; have HS2 := Lib.hid (HS1.out.new hb hB hg); clear hb hB hg HS1)
      | (refine wpList_alloc_b rfl (some 6) rfl 31 (wA v) (by kernel_rfl) ?_; intro g3 W3 hb hB hg; have HS3 := Lib.hid (HS2.out.new hb hB hg); clear hb hB hg HS2)
      | (refine wpList_load_at rfl 29 _ rfl (HS3.out.at_ 0 rfl) 6 (fV a) rfl _ Try.underlying29 rfl (by kernel_rfl) (Nat.le_of_ble_eq_true rfl) rfl ?_))
    refine (HA.out _).mono ?_
    rintro e W4 ⟨rfl, hb⟩
    have HS4 := Lib.hid (HS3.out.after hb)
    clear hb HS3
    go_wp2
    go_ret2
    exact ⟨ret_bi E1.out.symm E2.out.symm, HS4.out.below⟩
  cases h2 : rightF b
  · skip
    have E1 := Lib.hid (show ahdV a b v now = false by unfold ahdV ahdB; rw [h1, h2]; simp)
    have E2 := Lib.hid (show ahdE a b v now = 1 by unfold ahdE ahdB; rw [h1, h2]; simp)
    clear HM HO
    go_enter Try.func14, Try.ntmps14
    have HS0 := Lib.hid (Bs.nil w)
    go_wp2_with (first
      | (refine wpList_alloc_b rfl (some 4) rfl 29 (fA a) (by kernel_rfl) ?_; intro g1 W1 hb hB hg; have HS1 := Lib.hid (HS0.out.new hb hB hg); clear hb hB hg HS0)
      | (refine wpList_alloc_b rfl (some 5) rfl 29 (fA b) (by kernel_rfl) ?_; intro g2 W2 hb hB hg; have HS2 := Lib.hid (HS1.out.new hb hB hg); clear hb hB hg HS1)
      | (refine wpList_alloc_b rfl (some 6) rfl 31 (wA v) (by kernel_rfl) ?_; intro g3 W3 hb hB hg; have HS3 := Lib.hid (HS2.out.new hb hB hg); clear hb hB hg HS2)
      | (refine wpList_load_at rfl 29 _ rfl (HS3.out.at_ 0 rfl) 6 (fV a) rfl _ Try.underlying29 rfl (by kernel_rfl) (Nat.le_of_ble_eq_true rfl) rfl ?_))
    refine (HA.out _).mono ?_
    rintro e W4 ⟨rfl, hb⟩
    have HS4 := Lib.hid (HS3.out.after hb)
    clear hb HS3
    go_wp2_with (refine wpList_load_g (by kernel_rfl) 29 _ rfl (HS4.out.at_ 1 rfl) 6 (fV b) rfl _ Try.underlying29 rfl (by kernel_rfl) (Nat.le_of_ble_eq_true rfl) rfl ?_)
    refine (HB.out _).mono ?_
    rintro e W5 ⟨rfl, hb⟩
    have HS5 := Lib.hid (HS4.out.after hb)
    clear hb HS4
    go_wp2
    go_ret2
    exact ⟨ret_bi E1.out.symm E2.out.symm, HS5.out.below⟩
  cases h3 : mayW v now
  · skip
    have E1 := Lib.hid (show ahdV a b v now = false by unfold ahdV ahdB; rw [h1, h2, h3]; simp)
    have E2 := Lib.hid (show ahdE a b v now = 1 by unfold ahdE ahdB; rw [h1, h2, h3]; simp)
    clear HO
    go_enter Try.func14, Try.ntmps14
    have HS0 := Lib.hid (Bs.nil w)
    go_wp2_with (first
      | (refine wpList_alloc_b rfl (some 4) rfl 29 (fA a) (by kernel_rfl) ?_; intro g1 W1 hb hB hg; have HS1 := Lib.hid (HS0.out.new hb hB hg); clear hb hB hg HS0)
      | (refine wpList_alloc_b rfl (some 5) rfl 29 (fA b) (by kernel_rfl) ?_; intro g2 W2 hb hB hg; have HS2 := Lib.hid (HS1.out.new hb hB hg); clear hb hB hg HS1)
      | (refine wpList_alloc_b rfl (some 6) rfl 31 (wA v) (by kernel_rfl) ?_; intro g3 W3 hb hB hg; have HS3 := Lib.hid (HS2.out.new hb hB hg); clear hb hB hg HS2)
      | (refine wpList_load_at rfl 29 _ rfl (HS3.out.at_ 0 rfl) 6 (fV a) rfl _ Try.underlying29 rfl (by kernel_rfl) (Nat.le_of_ble_eq_true rfl) rfl ?_))
    refine (HA.out _).mono ?_
    rintro e W4 ⟨rfl, hb⟩
    have HS4 := Lib.hid (HS3.out.after hb)
    clear hb HS3
    go_wp2_with (refine wpList_load_g (by kernel_rfl) 29 _ rfl (HS4.out.at_ 1 rfl) 6 (fV b) rfl _ Try.underlying29 rfl (by kernel_rfl) (Nat.le_of_ble_eq_true rfl) rfl ?_)
    refine (HB.out _).mono ?_
    rintro e W5 ⟨rfl, hb⟩
    have HS5 := Lib.hid (HS4.out.after hb)
    clear hb HS4
    go_wp2_with (refine wpList_load_g (by kernel_rfl) 31 _ rfl (HS5.out.at_ 2 rfl) 6 (wV v) rfl _ Try.underlying31 rfl (by kernel_rfl) (Nat.le_of_ble_eq_true rfl) rfl ?_)
    refine (HM.out _).mono ?_
    rintro e W6 ⟨rfl, hb⟩
    have HS6 := Lib.hid (HS5.out.after hb)
    clear hb HS5
    go_wp2
    go_ret2
    exact ⟨ret_bi E1.out.symm E2.out.symm, HS6.out.below⟩
  have E1 := Lib.hid (show decide (ordV a b v now < 0) = ahdV a b v now by unfold ahdV ahdB; rw [h1, h2, h3]; simp)
  have E2 := Lib.hid (show ahdE a b v now = 0 by unfold ahdE ahdB; rw [h1, h2, h3]; simp)
  have HQ := Lib.hid (HO.out h1 h2 h3)
  clear HO
  go_enter Try.func14, Try.ntmps14
  have HS0 := Lib.hid (Bs.nil w)
  go_wp2_with (first
    | (refine wpList_alloc_b rfl (some 4) rfl 29 (fA a) (by kernel_rfl) ?_; intro g1 W1 hb hB hg; have HS1 := Lib.hid (HS0.out.new hb hB hg); clear hb hB hg HS0)
    | (refine wpList_alloc_b rfl (some 5) rfl 29 (fA b) (by kernel_rfl) ?_; intro g2 W2 hb hB hg; have HS2 := Lib.hid (HS1.out.new hb hB hg); clear hb hB hg HS1)
    | (refine wpList_alloc_b rfl (some 6) rfl 31 (wA v) (by kernel_rfl) ?_; intro g3 W3 hb hB hg; have HS3 := Lib.hid (HS2.out.new hb hB hg); clear hb hB hg HS2)
    | (refine wpList_load_at rfl 29 _ rfl (HS3.out.at_ 0 rfl) 6 (fV a) rfl _ Try.underlying29 rfl (by kernel_rfl) (Nat.le_of_ble_eq_true rfl) rfl ?_))
  refine (HA.out _).mono ?_
  rintro e W4 ⟨rfl, hb⟩
  have HS4 := Lib.hid (HS3.out.after hb)
  clear hb HS3
  go_wp2_with (refine wpList_load_g (by kernel_rfl) 29 _ rfl (HS4.out.at_ 1 rfl) 6 (fV b) rfl _ Try.underlying29 rfl (by kernel_rfl) (Nat.le_of_ble_eq_true rfl) rfl ?_)
  refine (HB.out _).mono ?_
  rintro e W5 ⟨rfl, hb⟩
  have HS5 := Lib.hid (HS4.out.after hb)
  clear hb HS4
  go_wp2_with (refine wpList_load_g (by kernel_rfl) 31 _ rfl (HS5.out.at_ 2 rfl) 6 (wV v) rfl _ Try.underlying31 rfl (by kernel_rfl) (Nat.le_of_ble_eq_true rfl) rfl ?_)
  refine (HM.out _).mono ?_
  rintro e W6 ⟨rfl, hb⟩
  have HS6 := Lib.hid (HS5.out.after hb)
  clear hb HS5
  go_wp2_with (first
    | (refine wpList_load_at rfl 31 _ rfl (HS6.out.at_ 2 rfl) 6 (wV v) rfl _ Try.underlying31 rfl (by kernel_rfl) (Nat.le_of_ble_eq_true rfl) rfl ?_)
    | (refine wpList_load_at rfl 29 _ rfl (HS6.out.at_ 0 rfl) 6 (fV a) rfl _ Try.underlying29 rfl (by kernel_rfl) (Nat.le_of_ble_eq_true rfl) rfl ?_)
    | (refine wpList_load_at rfl 29 _ rfl (HS6.out.at_ 1 rfl) 6 (fV b) rfl _ Try.underlying29 rfl (by kernel_rfl) (Nat.le_of_ble_eq_true rfl) rfl ?_))
  refine (HQ.out _).mono ?_
  rintro e W7 ⟨rfl, hb⟩
  have HS7 := Lib.hid (HS6.out.after hb)
  clear hb HS6
  go_wp2
  go_ret2
  exact ⟨ret_bi E1.out E2.out.symm, HS7.out.below⟩
end Go.Proofs.Ytmilcgfcmeahgaa
