/- Prio: the law PrioAge: its walk. Printed by gen_pa.py. -/
import Derived.Test.YtmilcgfcmeahgaaP9
set_option linter.unusedVariables false
namespace Go.Proofs.Ytmilcgfcmeahgaa
open Go.RowKit Go.Sort

set_option maxRecDepth 100000 in
set_option maxHeartbeats 4000000 in
theorem prioAge_w (f : Fa) (v : We) (x y : Int) (w : World) : Calls Try.prog 4 #[fV f, wV v, .agg #[.int .i64 x, .int .i64 y]] w fun e w' => e = .returned (.bool true) ∧ Below w.heap.size w w' := by
  go_enter Try.func4, Try.ntmps4
  have HS0 := Lib.hid (Bs.nil w)
  go_wp2_with (first
    | (refine wpList_alloc_b rfl (some 3) rfl 23 (fA f) (by kernel_rfl) ?_; intro g1 W1 hb hB hg; have HS1 := Lib.hid (HS0.out.new hb hB hg); clear hb hB hg HS0)
    | (refine wpList_alloc_b rfl (some 4) rfl 25 (wA v) (by kernel_rfl) ?_; intro g2 W2 hb hB hg; have HS2 := Lib.hid (HS1.out.new hb hB hg); clear hb hB hg HS1)
    | (refine wpList_alloc_b rfl (some 5) rfl 39 (#[.int .i64 x, .int .i64 y]) (by kernel_rfl) ?_; intro g3 W3 hb hB hg; have HS3 := Lib.hid (HS2.out.new hb hB hg); clear hb hB hg HS2))
  refine region_b (Bs w _) (by kernel_rfl) (by kernel_rfl) HS3.out ?_
  clear HS3
  intro W4 hS
  have q2 := hS.on 2 rfl
  have HS4 := Lib.hid hS
  clear hS
  repeat (first | go_big_quiet_step (fail) | quiet_step (fail))
  refine wpQuiet_nil ?_
  intro W5 hb
  have HS5 := Lib.hid (HS4.out.after hb)
  clear hb HS4 q2
  have hel : min x y ≤ max x y := by omega
  obtain ⟨e, he⟩ : ∃ e, e = min x y := ⟨_, rfl⟩
  obtain ⟨l, hl⟩ : ∃ l, l = max x y := ⟨_, rfl⟩
  rw [← he, ← hl] at hel
  rw [← he, ← hl]
  have HL := Lib.hid hel
  clear he hl hel
  go_wp2_with fail
  refine region_b (Bs w _) (by kernel_rfl) (by kernel_rfl) HS5.out ?_
  clear HS5
  intro W6 hS
  have HS6 := Lib.hid hS
  clear hS
  repeat (first | (refine wpQuiet_load_b (by kernel_rfl) 23 _ rfl (HS6.out.at_ 0 rfl) 6 (fV f) rfl _ Try.underlying23 rfl (by kernel_rfl) (Nat.le_of_ble_eq_true rfl) rfl ?_) | (refine wpQuiet_load_b (by kernel_rfl) 25 _ rfl (HS6.out.at_ 1 rfl) 6 (wV v) rfl _ Try.underlying25 rfl (by kernel_rfl) (Nat.le_of_ble_eq_true rfl) rfl ?_) | go_big_quiet_step (first | with_reducible exact Calls.regrown_of (facts_c f _) | with_reducible exact Calls.regrown_of (weights_c v _) | with_reducible exact Calls.regrown_of (points_c f v e _)) | quiet_step (first | with_reducible exact Calls.regrown_of (facts_c f _) | with_reducible exact Calls.regrown_of (weights_c v _) | with_reducible exact Calls.regrown_of (points_c f v e _)))
  refine wpQuiet_nil ?_
  intro W7 hb
  have HS7 := Lib.hid (HS6.out.after hb)
  clear hb HS6
  go_wp2_with fail
  refine region_b (Bs w _) (by kernel_rfl) (by kernel_rfl) HS7.out ?_
  clear HS7
  intro W8 hS
  have HS8 := Lib.hid hS
  clear hS
  repeat (first | (refine wpQuiet_load_b (by kernel_rfl) 23 _ rfl (HS8.out.at_ 0 rfl) 6 (fV f) rfl _ Try.underlying23 rfl (by kernel_rfl) (Nat.le_of_ble_eq_true rfl) rfl ?_) | (refine wpQuiet_load_b (by kernel_rfl) 25 _ rfl (HS8.out.at_ 1 rfl) 6 (wV v) rfl _ Try.underlying25 rfl (by kernel_rfl) (Nat.le_of_ble_eq_true rfl) rfl ?_) | go_big_quiet_step (first | with_reducible exact Calls.regrown_of (facts_c f _) | with_reducible exact Calls.regrown_of (weights_c v _) | with_reducible exact Calls.regrown_of (points_c f v l _)) | quiet_step (first | with_reducible exact Calls.regrown_of (facts_c f _) | with_reducible exact Calls.regrown_of (weights_c v _) | with_reducible exact Calls.regrown_of (points_c f v l _)))
  refine wpQuiet_nil ?_
  intro W9 hb
  have HS9 := Lib.hid (HS8.out.after hb)
  clear hb HS8
  by_cases h1 : poE f v e = 0
  · skip
    by_cases h2 : poE f v l = 0
    · skip
      have HQ := Lib.hid (law_age HL.out h1 h2)
      clear HL
      go_wp2_with (first
        | (refine wpList_load_at rfl 23 _ rfl (HS9.out.at_ 0 rfl) 6 (fV f) rfl _ Try.underlying23 rfl (by kernel_rfl) (Nat.le_of_ble_eq_true rfl) rfl ?_)
        | (refine wpList_alloc_b rfl (some 13) rfl 23 (#[.int .i64 0, .int .i64 0, .int .i64 0, .int .i64 0, .int .i64 0, .int .i64 0]) (by kernel_rfl) ?_; intro g10 W10 hb hB hg; have HS10 := Lib.hid (HS9.out.new hb hB hg); clear hb hB hg HS9)
        | (refine wpList_store_at rfl 23 _ _ rfl (HS10.out.at_ 3 rfl) (fV f) rfl rfl (by kernel_rfl) (Nat.le_of_ble_eq_true rfl) (by kernel_rfl) ?_; intro W11 hB hP; have HS11 := Lib.hid (HS10.out.put 3 rfl (new := fA f) hB hP); clear hB hP HS10)
        | (refine wpList_store_at rfl 3 _ _ rfl (HS11.out.at_ 3 rfl) (.int .i64 0) rfl rfl (by kernel_rfl) (Nat.le_of_ble_eq_true rfl) (by kernel_rfl) ?_; intro W12 hB hP; have HS12 := Lib.hid (HS11.out.put 3 rfl (new := #[.int .i64 f.id, .int .i64 0, .int .i64 f.nod, .int .i64 f.prt, .int .i64 f.qos, .int .i64 f.shr]) hB hP); clear hB hP HS11))
      refine region_b (Bs w _) (by kernel_rfl) (by kernel_rfl) HS12.out ?_
      clear HS12
      intro W13 hS
      have HS13 := Lib.hid hS
      clear hS
      repeat (first | (refine wpQuiet_load_b (by kernel_rfl) 23 _ rfl (HS13.out.at_ 3 rfl) 6 (.agg #[.int .i64 f.id, .int .i64 0, .int .i64 f.nod, .int .i64 f.prt, .int .i64 f.qos, .int .i64 f.shr]) rfl _ Try.underlying23 rfl (by kernel_rfl) (Nat.le_of_ble_eq_true rfl) rfl ?_) | (refine wpQuiet_load_b (by kernel_rfl) 25 _ rfl (HS13.out.at_ 1 rfl) 6 (wV v) rfl _ Try.underlying25 rfl (by kernel_rfl) (Nat.le_of_ble_eq_true rfl) rfl ?_) | go_big_quiet_step (first | with_reducible exact Calls.regrown_of (facts_c ⟨f.id, 0, f.nod, f.prt, f.qos, f.shr⟩ _) | with_reducible exact Calls.regrown_of (weights_c v _) | with_reducible exact Calls.regrown_of (points_c ⟨f.id, 0, f.nod, f.prt, f.qos, f.shr⟩ v l _)) | quiet_step (first | with_reducible exact Calls.regrown_of (facts_c ⟨f.id, 0, f.nod, f.prt, f.qos, f.shr⟩ _) | with_reducible exact Calls.regrown_of (weights_c v _) | with_reducible exact Calls.regrown_of (points_c ⟨f.id, 0, f.nod, f.prt, f.qos, f.shr⟩ v l _)))
      refine wpQuiet_nil ?_
      intro W14 hb
      have HS14 := Lib.hid (HS13.out.after hb)
      clear hb HS13
      obtain ⟨k1, k2, k3, k4⟩ := HQ.out
      clear HQ h1 h2
      go_wp2_with fail
      refine (alive_c _).mono ?_
      rintro e W15 ⟨rfl, hb⟩
      have HS15 := Lib.hid (HS14.out.after hb)
      clear hb HS14
      go_wp2
      go_ret
      exact ⟨rfl, HS15.out.below⟩
    · skip
      have hb : (poE f v l != 0) = true := by simpa using h2
      have H2 := Lib.hid h2
      clear h2
      go_wp2_with fail
      refine (alive_c _).mono ?_
      rintro e W10 ⟨rfl, hb⟩
      have HS10 := Lib.hid (HS9.out.after hb)
      clear hb HS9
      go_wp2
      go_ret
      exact ⟨rfl, HS10.out.below⟩
  · skip
    have hb : (poE f v e != 0) = true := by simpa using h1
    have H1 := Lib.hid h1
    clear h1
    go_wp2_with fail
    refine (alive_c _).mono ?_
    rintro e W10 ⟨rfl, hb⟩
    have HS10 := Lib.hid (HS9.out.after hb)
    clear hb HS9
    go_wp2
    go_ret
    exact ⟨rfl, HS10.out.below⟩
end Go.Proofs.Ytmilcgfcmeahgaa
