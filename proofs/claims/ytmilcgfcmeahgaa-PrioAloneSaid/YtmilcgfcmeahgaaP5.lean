/- Prio: Points. -/
import Derived.Test.YtmilcgfcmeahgaaP4
set_option linter.unusedVariables false
namespace Go.Proofs.Ytmilcgfcmeahgaa
open Go.RowKit

set_option maxRecDepth 100000 in
set_option maxHeartbeats 4000000 in
theorem points_c (f : Fa) (v : We) (now : Int) (w : World) : Calls Try.prog 7 #[fV f, wV v, .int .i64 now] w fun e w' => e = .returned (.tuple #[.int .i64 (poV f v now), .int .i64 (poE f v now)]) ∧ Below w.heap.size w w' := by
  have HR := Lib.hid (right_c f)
  have HM := Lib.hid (may_c v now)
  have HP := Lib.hid (pts_c f v now)
  go_enter Try.func7, Try.ntmps7
  have H0 := Lib.hid (Bs.nil w)
  go_wp2_with (first
    | (refine wpList_alloc_b rfl (some 3) rfl 29 (fA f) (by kernel_rfl) ?_; intro g1 W1 hb hB hg; have H1 := Lib.hid (H0.out.new hb hB hg); clear hb hB hg H0)
    | (refine wpList_alloc_b rfl (some 4) rfl 31 (wA v) (by kernel_rfl) ?_; intro g2 W2 hb hB hg; have H2 := Lib.hid (H1.out.new hb hB hg); clear hb hB hg H1)
    | (refine wpList_load_at rfl 29 _ rfl (H2.out.at_ 0 rfl) 6 (fV f) rfl _ Try.underlying29 rfl (by kernel_rfl) (Nat.le_of_ble_eq_true rfl) rfl ?_))
  refine (HR.out _).mono ?_
  rintro e w3 ⟨rfl, hb⟩
  have H3 := Lib.hid (H2.out.after hb)
  clear hb H2
  cases hr : rightF f
  · have E1 := Lib.hid (show poV f v now = 0 by unfold poV; rw [hr]; rfl)
    have E2 := Lib.hid (show poE f v now = 1 by unfold poE; rw [hr]; rfl)
    clear HR HM HP
    go_wp2
    go_ret2
    exact ⟨ret_two E1.out.symm E2.out.symm, H3.out.below⟩
  · go_wp2_with (refine wpList_load_g (by kernel_rfl) 31 _ rfl (H3.out.at_ 1 rfl) 6 (wV v) rfl _ Try.underlying31 rfl (by kernel_rfl) (Nat.le_of_ble_eq_true rfl) rfl ?_)
    refine (HM.out _).mono ?_
    rintro e w4 ⟨rfl, hb⟩
    have H4 := Lib.hid (H3.out.after hb)
    clear hb H3
    cases hm : mayW v now
    · have E1 := Lib.hid (show poV f v now = 0 by unfold poV; rw [hm, Bool.and_false]; rfl)
      have E2 := Lib.hid (show poE f v now = 1 by unfold poE; rw [hm, Bool.and_false]; rfl)
      clear HR HM HP
      go_wp2
      go_ret2
      exact ⟨ret_two E1.out.symm E2.out.symm, H4.out.below⟩
    · have E1 := Lib.hid (show poV f v now = ptsF f v now by unfold poV; rw [hr, hm]; rfl)
      have E2 := Lib.hid (show poE f v now = 0 by unfold poE; rw [hr, hm]; rfl)
      have HQ := Lib.hid (HP.out hr hm)
      clear HR HM HP
      go_wp2_with (first
        | (refine wpList_load_at rfl 31 _ rfl (H4.out.at_ 1 rfl) 6 (wV v) rfl _ Try.underlying31 rfl (by kernel_rfl) (Nat.le_of_ble_eq_true rfl) rfl ?_)
        | (refine wpList_load_at rfl 29 _ rfl (H4.out.at_ 0 rfl) 6 (fV f) rfl _ Try.underlying29 rfl (by kernel_rfl) (Nat.le_of_ble_eq_true rfl) rfl ?_))
      refine (HQ.out _).mono ?_
      rintro e w5 ⟨rfl, hb⟩
      have H5 := Lib.hid (H4.out.after hb)
      clear hb H4 HQ
      go_wp2
      go_ret2
      exact ⟨ret_two E1.out.symm E2.out.symm, H5.out.below⟩
end Go.Proofs.Ytmilcgfcmeahgaa
