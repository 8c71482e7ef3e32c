/- Prio: order. -/
import Derived.Test.YtmilcgfcmeahgaaP6
set_option linter.unusedVariables false
namespace Go.Proofs.Ytmilcgfcmeahgaa
open Go.RowKit

def ordV (a b : Fa) (v : We) (now : Int) : Int := orV (cmpV (ptsF b v now) (ptsF a v now)) (cmpV a.sub b.sub) (cmpV a.id b.id)
set_option maxRecDepth 100000 in
set_option maxHeartbeats 4000000 in
theorem order_c (f g : Fa) (v : We) (now : Int) (hf : rightF f = true) (hg : rightF g = true) (hm : mayW v now = true) (w : World) :
    Calls Try.prog 20 #[wV v, fV f, fV g, .int .i64 now] w fun e w' => e = .returned (.int .i64 (ordV f g v now)) ∧ Below w.heap.size w w' := by
  have HPf := Lib.hid (pts_c f v now hf hm)
  have HPg := Lib.hid (pts_c g v now hg hm)
  have HV := Lib.hid (show ordV f g v now = orV (cmpV (ptsF g v now) (ptsF f v now)) (cmpV f.sub g.sub) (cmpV f.id g.id) from rfl)
  obtain ⟨r, hr⟩ : ∃ r, r = ordV f g v now := ⟨_, rfl⟩
  rw [← hr] at HV ⊢
  clear hr hf hg hm
  go_enter Try.func20, Try.ntmps20
  have HS0 := Lib.hid (Bs.nil w)
  go_wp2_with (first
    | (refine wpList_alloc_b rfl (some 4) rfl 31 (wA v) (by kernel_rfl) ?_; intro g1 W1 hb hB hg; have HS1 := Lib.hid (HS0.out.new hb hB hg); clear hb hB hg HS0)
    | (refine wpList_alloc_b rfl (some 5) rfl 29 (fA f) (by kernel_rfl) ?_; intro g2 W2 hb hB hg; have HS2 := Lib.hid (HS1.out.new hb hB hg); clear hb hB hg HS1)
    | (refine wpList_alloc_b rfl (some 6) rfl 29 (fA g) (by kernel_rfl) ?_; intro g3 W3 hb hB hg; have HS3 := Lib.hid (HS2.out.new hb hB hg); clear hb hB hg HS2))
  refine region_bt 19 (Bs w _) (by kernel_rfl) (by kernel_rfl) HS3.out ?_
  clear HS3
  intro W4 hS
  have q1 := hS.on 1 rfl
  have q2 := hS.on 2 rfl
  have HS4 := Lib.hid hS
  clear hS
  simp only [List.take_succ_cons, List.take_zero, List.drop_succ_cons, List.drop_zero]
  repeat (first
    | (refine wpQuiet_load_b (by kernel_rfl) 31 _ rfl (HS4.out.at_ 0 rfl) 6 (wV v) rfl _ Try.underlying31 rfl (by kernel_rfl) (Nat.le_of_ble_eq_true rfl) rfl ?_)
    | (refine wpQuiet_load_b (by kernel_rfl) 29 _ rfl (HS4.out.at_ 1 rfl) 6 (fV f) rfl _ Try.underlying29 rfl (by kernel_rfl) (Nat.le_of_ble_eq_true rfl) rfl ?_)
    | (refine wpQuiet_load_b (by kernel_rfl) 29 _ rfl (HS4.out.at_ 2 rfl) 6 (fV g) rfl _ Try.underlying29 rfl (by kernel_rfl) (Nat.le_of_ble_eq_true rfl) rfl ?_)
    | quiet_step (first | with_reducible exact Calls.regrown_of (HPf.out _) | with_reducible exact Calls.regrown_of (HPg.out _) | with_reducible exact Calls.regrown_of (below_of (compare_c _ _ _))))
  refine wpQuiet_nil ?_
  intro W5 hb
  have HS5 := Lib.hid (HS4.out.after hb)
  clear hb HS4 q1 q2
  go_wp2_with (refine wpList_build_b rfl (some 28) rfl 3 3 #[.int .i64 (cmpV (ptsF g v now) (ptsF f v now)), .int .i64 (cmpV f.sub g.sub), .int .i64 (cmpV f.id g.id)] (by kernel_rfl) ?_; intro g6 W6 hb hB hg; have HS6 := Lib.hid (HS5.out.new hb hB hg); clear hb hB hg HS5)
  refine (or3_c _ _ _ _ _ (HS6.out.at_ 3 rfl)).mono ?_
  rintro e w' ⟨rfl, rfl⟩
  go_wp2
  go_ret
  exact ⟨ret_i HV.out.symm, HS6.out.below⟩
end Go.Proofs.Ytmilcgfcmeahgaa
