/- Prio: the law PrioOrder: its walk. Printed by gen_pa.py. -/
import Derived.Test.YtmilcgfcmeahgaaP9
set_option linter.unusedVariables false
namespace Go.Proofs.Ytmilcgfcmeahgaa
open Go.RowKit Go.Sort

set_option maxRecDepth 100000 in
set_option maxHeartbeats 4000000 in
theorem ahead_turned (a b : Fa) (v : We) (now : Int) (w : World) : Calls Try.prog 14 #[fV b, fV a, wV v, .int .i64 now] w fun e w' => e = .returned (.tuple #[.bool (ahdV b a v now), .int .i64 (ahdE a b v now)]) ∧ Below w.heap.size w w' := by
  rw [ahdE_comm]; exact ahead_c b a v now w
set_option maxRecDepth 100000 in
set_option maxHeartbeats 4000000 in
theorem prioOrder_w (a b c : Fa) (v : We) (now : Int) (w : World) : Calls Try.prog 5 #[.agg #[.int .i64 a.id, .int .i64 a.sub, .int .i64 a.nod, .int .i64 a.prt, .int .i64 a.qos, .int .i64 a.shr, .int .i64 b.id, .int .i64 b.sub, .int .i64 b.nod, .int .i64 b.prt, .int .i64 b.qos, .int .i64 b.shr, .int .i64 c.id, .int .i64 c.sub, .int .i64 c.nod, .int .i64 c.prt, .int .i64 c.qos, .int .i64 c.shr], wV v, .int .i64 now] w fun e w' => e = .returned (.bool true) ∧ Below w.heap.size w w' := by
  go_enter Try.func5, Try.ntmps5
  have HS0 := Lib.hid (Bs.nil w)
  go_wp2_with (first
    | (refine wpList_alloc_b rfl (some 3) rfl 41 (#[.int .i64 a.id, .int .i64 a.sub, .int .i64 a.nod, .int .i64 a.prt, .int .i64 a.qos, .int .i64 a.shr, .int .i64 b.id, .int .i64 b.sub, .int .i64 b.nod, .int .i64 b.prt, .int .i64 b.qos, .int .i64 b.shr, .int .i64 c.id, .int .i64 c.sub, .int .i64 c.nod, .int .i64 c.prt, .int .i64 c.qos, .int .i64 c.shr]) (by kernel_rfl) ?_; intro g1 W1 hb hB hg; have HS1 := Lib.hid (HS0.out.new hb hB hg); clear hb hB hg HS0)
    | (refine wpList_alloc_b rfl (some 4) rfl 25 (wA v) (by kernel_rfl) ?_; intro g2 W2 hb hB hg; have HS2 := Lib.hid (HS1.out.new hb hB hg); clear hb hB hg HS1))
  refine region_bl 9 12 (fun i => if i = 9 then Obj.cells #[.int .i64 0, .int .i64 0, .int .i64 0, .int .i64 0, .int .i64 0, .int .i64 0] 29 else if i = 10 then Obj.cells #[.int .i64 0, .int .i64 0, .int .i64 0, .int .i64 0, .int .i64 0, .int .i64 0] 29 else Obj.cells #[.int .i64 0, .int .i64 0, .int .i64 0, .int .i64 0, .int .i64 0, .int .i64 0] 29) (Bs w _) (by kernel_rfl) (by kernel_rfl) (by decide) HS2.out (by
      intro i h1 h2 o ho a w; obtain rfl | rfl | rfl : i = 9 ∨ i = 10 ∨ i = 11 := by omega
      all_goals (cases ho; exact ⟨rfl, by kernel_rfl⟩)) ?_
  clear HS2
  intro W3 hS
  have HS3 := Lib.hid hS
  clear hS
  simp only [List.take_succ_cons, List.take_zero, List.drop_succ_cons, List.drop_zero, Nat.reduceSub]
  repeat (first | (refine wpG_load_b (by kernel_rfl) 23 _ rfl (HS3.out.at_ 0 rfl) 6 (.agg #[.int .i64 a.id, .int .i64 a.sub, .int .i64 a.nod, .int .i64 a.prt, .int .i64 a.qos, .int .i64 a.shr]) rfl _ Try.underlying23 rfl (by kernel_rfl) (Nat.le_of_ble_eq_true rfl) rfl ?_) | (refine wpG_load_b (by kernel_rfl) 23 _ rfl (HS3.out.at_ 0 rfl) 6 (.agg #[.int .i64 b.id, .int .i64 b.sub, .int .i64 b.nod, .int .i64 b.prt, .int .i64 b.qos, .int .i64 b.shr]) rfl _ Try.underlying23 rfl (by kernel_rfl) (Nat.le_of_ble_eq_true rfl) rfl ?_) | (refine wpG_load_b (by kernel_rfl) 23 _ rfl (HS3.out.at_ 0 rfl) 6 (.agg #[.int .i64 c.id, .int .i64 c.sub, .int .i64 c.nod, .int .i64 c.prt, .int .i64 c.qos, .int .i64 c.shr]) rfl _ Try.underlying23 rfl (by kernel_rfl) (Nat.le_of_ble_eq_true rfl) rfl ?_) | (refine wpG_step (fun K hK => ?_); go_simp; first | (refine hK _ ?_; clear hK K) | (apply Exists.intro; refine ⟨fun _ => ?_, hK _ ?_⟩; (first | with_reducible exact calls_on (facts_c a _) | with_reducible exact calls_on (facts_c b _) | with_reducible exact calls_on (facts_c c _)); clear hK K)))
  refine wpG_nil ?_
  intro g4 hg4 g5 hg5 g6 hg6 W7 hb hA
  have HS7 := Lib.hid (HS3.out.laid3 hb hg4 hg5 hg6 hA)
  clear hb hA HS3 hg4 hg5 hg6
  refine wpList_store_at rfl 29 _ _ rfl (HS7.out.at_ 2 rfl) (fV a) rfl rfl (by kernel_rfl) (Nat.le_of_ble_eq_true rfl) (by kernel_rfl) ?_
  intro W8 hB hP
  have HS8 := Lib.hid (HS7.out.put 2 rfl (new := fA a) hB hP)
  clear hB hP HS7
  refine wpList_store_at rfl 29 _ _ rfl (HS8.out.at_ 3 rfl) (fV b) rfl rfl (by kernel_rfl) (Nat.le_of_ble_eq_true rfl) (by kernel_rfl) ?_
  intro W9 hB hP
  have HS9 := Lib.hid (HS8.out.put 3 rfl (new := fA b) hB hP)
  clear hB hP HS8
  refine wpList_store_at rfl 29 _ _ rfl (HS9.out.at_ 4 rfl) (fV c) rfl rfl (by kernel_rfl) (Nat.le_of_ble_eq_true rfl) (by kernel_rfl) ?_
  intro W10 hB hP
  have HS10 := Lib.hid (HS9.out.put 4 rfl (new := fA c) hB hP)
  clear hB hP HS9
  go_wp2_with fail
  refine region_b (Bs w _) (by kernel_rfl) (by kernel_rfl) HS10.out ?_
  clear HS10
  intro W11 hS
  have HS11 := Lib.hid hS
  clear hS
  repeat (first | (refine wpQuiet_load_b (by kernel_rfl) 29 _ rfl (HS11.out.at_ 2 rfl) 6 (fV a) rfl _ Try.underlying29 rfl (by kernel_rfl) (Nat.le_of_ble_eq_true rfl) rfl ?_) | (refine wpQuiet_load_b (by kernel_rfl) 29 _ rfl (HS11.out.at_ 3 rfl) 6 (fV b) rfl _ Try.underlying29 rfl (by kernel_rfl) (Nat.le_of_ble_eq_true rfl) rfl ?_) | (refine wpQuiet_load_b (by kernel_rfl) 25 _ rfl (HS11.out.at_ 1 rfl) 6 (wV v) rfl _ Try.underlying25 rfl (by kernel_rfl) (Nat.le_of_ble_eq_true rfl) rfl ?_) | go_big_quiet_step (first | with_reducible exact Calls.regrown_of (weights_c v _) | with_reducible exact Calls.regrown_of (ahead_c a b v now _)) | quiet_step (first | with_reducible exact Calls.regrown_of (weights_c v _) | with_reducible exact Calls.regrown_of (ahead_c a b v now _)))
  refine wpQuiet_nil ?_
  intro W12 hb
  have HS12 := Lib.hid (HS11.out.after hb)
  clear hb HS11
  go_wp2_with fail
  refine region_b (Bs w _) (by kernel_rfl) (by kernel_rfl) HS12.out ?_
  clear HS12
  intro W13 hS
  have HS13 := Lib.hid hS
  clear hS
  repeat (first | (refine wpQuiet_load_b (by kernel_rfl) 29 _ rfl (HS13.out.at_ 3 rfl) 6 (fV b) rfl _ Try.underlying29 rfl (by kernel_rfl) (Nat.le_of_ble_eq_true rfl) rfl ?_) | (refine wpQuiet_load_b (by kernel_rfl) 29 _ rfl (HS13.out.at_ 2 rfl) 6 (fV a) rfl _ Try.underlying29 rfl (by kernel_rfl) (Nat.le_of_ble_eq_true rfl) rfl ?_) | (refine wpQuiet_load_b (by kernel_rfl) 25 _ rfl (HS13.out.at_ 1 rfl) 6 (wV v) rfl _ Try.underlying25 rfl (by kernel_rfl) (Nat.le_of_ble_eq_true rfl) rfl ?_) | go_big_quiet_step (first | with_reducible exact Calls.regrown_of (weights_c v _) | with_reducible exact Calls.regrown_of (ahead_turned a b v now _)) | quiet_step (first | with_reducible exact Calls.regrown_of (weights_c v _) | with_reducible exact Calls.regrown_of (ahead_turned a b v now _)))
  refine wpQuiet_nil ?_
  intro W14 hb
  have HS14 := Lib.hid (HS13.out.after hb)
  clear hb HS13
  go_wp2_with fail
  refine region_b (Bs w _) (by kernel_rfl) (by kernel_rfl) HS14.out ?_
  clear HS14
  intro W15 hS
  have HS15 := Lib.hid hS
  clear hS
  repeat (first | (refine wpQuiet_load_b (by kernel_rfl) 29 _ rfl (HS15.out.at_ 3 rfl) 6 (fV b) rfl _ Try.underlying29 rfl (by kernel_rfl) (Nat.le_of_ble_eq_true rfl) rfl ?_) | (refine wpQuiet_load_b (by kernel_rfl) 29 _ rfl (HS15.out.at_ 4 rfl) 6 (fV c) rfl _ Try.underlying29 rfl (by kernel_rfl) (Nat.le_of_ble_eq_true rfl) rfl ?_) | (refine wpQuiet_load_b (by kernel_rfl) 25 _ rfl (HS15.out.at_ 1 rfl) 6 (wV v) rfl _ Try.underlying25 rfl (by kernel_rfl) (Nat.le_of_ble_eq_true rfl) rfl ?_) | go_big_quiet_step (first | with_reducible exact Calls.regrown_of (weights_c v _) | with_reducible exact Calls.regrown_of (ahead_c b c v now _)) | quiet_step (first | with_reducible exact Calls.regrown_of (weights_c v _) | with_reducible exact Calls.regrown_of (ahead_c b c v now _)))
  refine wpQuiet_nil ?_
  intro W16 hb
  have HS16 := Lib.hid (HS15.out.after hb)
  clear hb HS15
  go_wp2_with fail
  refine region_b (Bs w _) (by kernel_rfl) (by kernel_rfl) HS16.out ?_
  clear HS16
  intro W17 hS
  have HS17 := Lib.hid hS
  clear hS
  repeat (first | (refine wpQuiet_load_b (by kernel_rfl) 29 _ rfl (HS17.out.at_ 2 rfl) 6 (fV a) rfl _ Try.underlying29 rfl (by kernel_rfl) (Nat.le_of_ble_eq_true rfl) rfl ?_) | (refine wpQuiet_load_b (by kernel_rfl) 29 _ rfl (HS17.out.at_ 4 rfl) 6 (fV c) rfl _ Try.underlying29 rfl (by kernel_rfl) (Nat.le_of_ble_eq_true rfl) rfl ?_) | (refine wpQuiet_load_b (by kernel_rfl) 25 _ rfl (HS17.out.at_ 1 rfl) 6 (wV v) rfl _ Try.underlying25 rfl (by kernel_rfl) (Nat.le_of_ble_eq_true rfl) rfl ?_) | go_big_quiet_step (first | with_reducible exact Calls.regrown_of (weights_c v _) | with_reducible exact Calls.regrown_of (ahead_c a c v now _)) | quiet_step (first | with_reducible exact Calls.regrown_of (weights_c v _) | with_reducible exact Calls.regrown_of (ahead_c a c v now _)))
  refine wpQuiet_nil ?_
  intro W18 hb
  have HS18 := Lib.hid (HS17.out.after hb)
  clear hb HS17
  by_cases h1 : ahdE a b v now = 0
  · skip
    by_cases h2 : ahdE b c v now = 0
    · skip
      by_cases h3 : ahdE a c v now = 0
      · skip
        have HG := Lib.hid (law_goes h1 h2 h3)
        cases hi : decide (a.id = b.id)
        · skip
          have hi' : a.id ≠ b.id := of_decide_eq_false hi
          have hb : (a.id != b.id) = true := by simpa using hi'
          have hq := eqFa_id hi'
          have HO := Lib.hid (show ahdV b a v now = !(ahdV a b v now) from by have := law_one h1 hi'; revert this; cases ahdV a b v now <;> cases ahdV b a v now <;> simp)
          clear hi hi'
          cases x1 : ahdV a b v now
          · skip
            have x4 := HO.out
            rw [x1] at x4
            simp only [Bool.not_false] at x4
            obtain ⟨r2a, r2b, r2c⟩ := HS18.out.rules 2 rfl
            obtain ⟨r3a, r3b, r3c⟩ := HS18.out.rules 3 rfl
            go_wp2_with (first
              | (refine wpList_load_g (by kernel_rfl) 29 _ rfl (HS18.out.at_ 2 rfl) 6 (fV a) rfl _ Try.underlying29 rfl (by kernel_rfl) (Nat.le_of_ble_eq_true rfl) rfl ?_)
              | (refine wpList_load_g (by kernel_rfl) 29 _ rfl (HS18.out.at_ 3 rfl) 6 (fV b) rfl _ Try.underlying29 rfl (by kernel_rfl) (Nat.le_of_ble_eq_true rfl) rfl ?_)
              | (refine wpList_eql (by kernel_rfl) 29 _ _ _ rfl rfl rfl (by kernel_rfl) (eqFa a b) (eqFa_run a b _) ?_))
            go_wp2_with fail
            refine (alive_c _).mono ?_
            rintro e W19 ⟨rfl, hb⟩
            have HS19 := Lib.hid (HS18.out.after hb)
            clear hb HS18 r2a r2b r2c r3a r3b r3c
            go_wp2
            go_ret
            exact ⟨rfl, HS19.out.below⟩
          · skip
            have x4 := HO.out
            rw [x1] at x4
            simp only [Bool.not_true] at x4
            cases x2 : ahdV b c v now
            · skip
              obtain ⟨r2a, r2b, r2c⟩ := HS18.out.rules 2 rfl
              obtain ⟨r3a, r3b, r3c⟩ := HS18.out.rules 3 rfl
              go_wp2_with (first
                | (refine wpList_load_g (by kernel_rfl) 29 _ rfl (HS18.out.at_ 2 rfl) 6 (fV a) rfl _ Try.underlying29 rfl (by kernel_rfl) (Nat.le_of_ble_eq_true rfl) rfl ?_)
                | (refine wpList_load_g (by kernel_rfl) 29 _ rfl (HS18.out.at_ 3 rfl) 6 (fV b) rfl _ Try.underlying29 rfl (by kernel_rfl) (Nat.le_of_ble_eq_true rfl) rfl ?_)
                | (refine wpList_eql (by kernel_rfl) 29 _ _ _ rfl rfl rfl (by kernel_rfl) (eqFa a b) (eqFa_run a b _) ?_))
              go_wp2_with fail
              refine (alive_c _).mono ?_
              rintro e W19 ⟨rfl, hb⟩
              have HS19 := Lib.hid (HS18.out.after hb)
              clear hb HS18 r2a r2b r2c r3a r3b r3c
              go_wp2
              go_ret
              exact ⟨rfl, HS19.out.below⟩
            · skip
              have x3 := HG.out x1 x2
              obtain ⟨r2a, r2b, r2c⟩ := HS18.out.rules 2 rfl
              obtain ⟨r3a, r3b, r3c⟩ := HS18.out.rules 3 rfl
              go_wp2_with (first
                | (refine wpList_load_g (by kernel_rfl) 29 _ rfl (HS18.out.at_ 2 rfl) 6 (fV a) rfl _ Try.underlying29 rfl (by kernel_rfl) (Nat.le_of_ble_eq_true rfl) rfl ?_)
                | (refine wpList_load_g (by kernel_rfl) 29 _ rfl (HS18.out.at_ 3 rfl) 6 (fV b) rfl _ Try.underlying29 rfl (by kernel_rfl) (Nat.le_of_ble_eq_true rfl) rfl ?_)
                | (refine wpList_eql (by kernel_rfl) 29 _ _ _ rfl rfl rfl (by kernel_rfl) (eqFa a b) (eqFa_run a b _) ?_))
              go_wp2_with fail
              refine (alive_c _).mono ?_
              rintro e W19 ⟨rfl, hb⟩
              have HS19 := Lib.hid (HS18.out.after hb)
              clear hb HS18 r2a r2b r2c r3a r3b r3c
              go_wp2
              go_ret
              exact ⟨rfl, HS19.out.below⟩
        · skip
          have hb : (a.id != b.id) = false := by simpa using of_decide_eq_true hi
          clear hi
          cases hq : eqFa a b
          · skip
            cases x1 : ahdV a b v now
            · skip
              obtain ⟨r2a, r2b, r2c⟩ := HS18.out.rules 2 rfl
              obtain ⟨r3a, r3b, r3c⟩ := HS18.out.rules 3 rfl
              go_wp2_with (first
                | (refine wpList_load_g (by kernel_rfl) 29 _ rfl (HS18.out.at_ 2 rfl) 6 (fV a) rfl _ Try.underlying29 rfl (by kernel_rfl) (Nat.le_of_ble_eq_true rfl) rfl ?_)
                | (refine wpList_load_g (by kernel_rfl) 29 _ rfl (HS18.out.at_ 3 rfl) 6 (fV b) rfl _ Try.underlying29 rfl (by kernel_rfl) (Nat.le_of_ble_eq_true rfl) rfl ?_)
                | (refine wpList_eql (by kernel_rfl) 29 _ _ _ rfl rfl rfl (by kernel_rfl) (eqFa a b) (eqFa_run a b _) ?_))
              go_wp2_with fail
              refine (alive_c _).mono ?_
              rintro e W19 ⟨rfl, hb⟩
              have HS19 := Lib.hid (HS18.out.after hb)
              clear hb HS18 r2a r2b r2c r3a r3b r3c
              go_wp2
              go_ret
              exact ⟨rfl, HS19.out.below⟩
            · skip
              cases x2 : ahdV b c v now
              · skip
                obtain ⟨r2a, r2b, r2c⟩ := HS18.out.rules 2 rfl
                obtain ⟨r3a, r3b, r3c⟩ := HS18.out.rules 3 rfl
                go_wp2_with (first
                  | (refine wpList_load_g (by kernel_rfl) 29 _ rfl (HS18.out.at_ 2 rfl) 6 (fV a) rfl _ Try.underlying29 rfl (by kernel_rfl) (Nat.le_of_ble_eq_true rfl) rfl ?_)
                  | (refine wpList_load_g (by kernel_rfl) 29 _ rfl (HS18.out.at_ 3 rfl) 6 (fV b) rfl _ Try.underlying29 rfl (by kernel_rfl) (Nat.le_of_ble_eq_true rfl) rfl ?_)
                  | (refine wpList_eql (by kernel_rfl) 29 _ _ _ rfl rfl rfl (by kernel_rfl) (eqFa a b) (eqFa_run a b _) ?_))
                go_wp2_with fail
                refine (alive_c _).mono ?_
                rintro e W19 ⟨rfl, hb⟩
                have HS19 := Lib.hid (HS18.out.after hb)
                clear hb HS18 r2a r2b r2c r3a r3b r3c
                go_wp2
                go_ret
                exact ⟨rfl, HS19.out.below⟩
              · skip
                have x3 := HG.out x1 x2
                obtain ⟨r2a, r2b, r2c⟩ := HS18.out.rules 2 rfl
                obtain ⟨r3a, r3b, r3c⟩ := HS18.out.rules 3 rfl
                go_wp2_with (first
                  | (refine wpList_load_g (by kernel_rfl) 29 _ rfl (HS18.out.at_ 2 rfl) 6 (fV a) rfl _ Try.underlying29 rfl (by kernel_rfl) (Nat.le_of_ble_eq_true rfl) rfl ?_)
                  | (refine wpList_load_g (by kernel_rfl) 29 _ rfl (HS18.out.at_ 3 rfl) 6 (fV b) rfl _ Try.underlying29 rfl (by kernel_rfl) (Nat.le_of_ble_eq_true rfl) rfl ?_)
                  | (refine wpList_eql (by kernel_rfl) 29 _ _ _ rfl rfl rfl (by kernel_rfl) (eqFa a b) (eqFa_run a b _) ?_))
                go_wp2_with fail
                refine (alive_c _).mono ?_
                rintro e W19 ⟨rfl, hb⟩
                have HS19 := Lib.hid (HS18.out.after hb)
                clear hb HS18 r2a r2b r2c r3a r3b r3c
                go_wp2
                go_ret
                exact ⟨rfl, HS19.out.below⟩
          · skip
            have he := eqFa_eq hq
            have hs : ahdE a a v now = 0 := by rw [← he] at h1; exact h1
            have x1 : ahdV a b v now = false := by rw [← he]; exact law_self hs
            have x4 : ahdV b a v now = false := by rw [← he]; exact law_self hs
            clear he hs
            obtain ⟨r2a, r2b, r2c⟩ := HS18.out.rules 2 rfl
            obtain ⟨r3a, r3b, r3c⟩ := HS18.out.rules 3 rfl
            go_wp2_with (first
              | (refine wpList_load_g (by kernel_rfl) 29 _ rfl (HS18.out.at_ 2 rfl) 6 (fV a) rfl _ Try.underlying29 rfl (by kernel_rfl) (Nat.le_of_ble_eq_true rfl) rfl ?_)
              | (refine wpList_load_g (by kernel_rfl) 29 _ rfl (HS18.out.at_ 3 rfl) 6 (fV b) rfl _ Try.underlying29 rfl (by kernel_rfl) (Nat.le_of_ble_eq_true rfl) rfl ?_)
              | (refine wpList_eql (by kernel_rfl) 29 _ _ _ rfl rfl rfl (by kernel_rfl) (eqFa a b) (eqFa_run a b _) ?_))
            go_wp2_with fail
            refine (alive_c _).mono ?_
            rintro e W19 ⟨rfl, hb⟩
            have HS19 := Lib.hid (HS18.out.after hb)
            clear hb HS18 r2a r2b r2c r3a r3b r3c
            go_wp2
            go_ret
            exact ⟨rfl, HS19.out.below⟩
      · skip
        have hb : (ahdE a c v now != 0) = true := by simpa using h3
        have H := Lib.hid h3
        clear h3
        go_wp2_with fail
        refine (alive_c _).mono ?_
        rintro e W19 ⟨rfl, hb⟩
        have HS19 := Lib.hid (HS18.out.after hb)
        clear hb HS18
        go_wp2
        go_ret
        exact ⟨rfl, HS19.out.below⟩
    · skip
      have hb : (ahdE b c v now != 0) = true := by simpa using h2
      have H := Lib.hid h2
      clear h2
      go_wp2_with fail
      refine (alive_c _).mono ?_
      rintro e W19 ⟨rfl, hb⟩
      have HS19 := Lib.hid (HS18.out.after hb)
      clear hb HS18
      go_wp2
      go_ret
      exact ⟨rfl, HS19.out.below⟩
  · skip
    have hb : (ahdE a b v now != 0) = true := by simpa using h1
    have H := Lib.hid h1
    clear h1
    go_wp2_with fail
    refine (alive_c _).mono ?_
    rintro e W19 ⟨rfl, hb⟩
    have HS19 := Lib.hid (HS18.out.after hb)
    clear hb HS18
    go_wp2
    go_ret
    exact ⟨rfl, HS19.out.below⟩
end Go.Proofs.Ytmilcgfcmeahgaa
