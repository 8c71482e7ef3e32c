/- Prio: the law PrioAlone: its walk. Printed by gen_pa.py. -/
import Derived.Test.YtmilcgfcmeahgaaP9
set_option linter.unusedVariables false
namespace Go.Proofs.Ytmilcgfcmeahgaa
open Go.RowKit Go.Sort

theorem alone_now {a b : Fa} {v : We} {now : Int} {x y : Int} (ha : rightF a = true) (hb : rightF b = true) (hm : mayW v now = true) (hx : ptsF a v now = x) (hy : ptsF b v now = y) (w : World) :
    Calls Try.prog 14 #[fV a, fV b, wV v, .int .i64 now] w fun e w' => e = .returned (.tuple #[.bool (decide (y < x) || (decide (x = y) && fstB a b)), .int .i64 0]) ∧ Below w.heap.size w w' := by
  obtain ⟨e1, e2⟩ := alone_of ha hb hm hx hy
  rw [← e2, ← e1]; exact ahead_c a b v now w
set_option maxRecDepth 100000 in
set_option maxHeartbeats 4000000 in
theorem prioAlone_w (a b : Fa) (now : Int) (w : World) : Calls Try.prog 6 #[fV a, fV b, .int .i64 now] w fun e w' => e = .returned (.bool true) ∧ Below w.heap.size w w' := by
  cases h1 : rightF a
  · skip
    go_enter Try.func6, Try.ntmps6
    have HS0 := Lib.hid (Bs.nil w)
    go_wp2_with (first
      | (refine wpList_alloc_b rfl (some 3) rfl 23 (fA a) (by kernel_rfl) ?_; intro g1 W1 hb hB hg; have HS1 := Lib.hid (HS0.out.new hb hB hg); clear hb hB hg HS0)
      | (refine wpList_alloc_b rfl (some 4) rfl 23 (fA b) (by kernel_rfl) ?_; intro g2 W2 hb hB hg; have HS2 := Lib.hid (HS1.out.new hb hB hg); clear hb hB hg HS1)
      | (refine wpList_load_at rfl 23 _ rfl (HS2.out.at_ 0 rfl) 6 (fV a) rfl _ Try.underlying23 rfl (by kernel_rfl) (Nat.le_of_ble_eq_true rfl) rfl ?_))
    refine (rright_c a _).mono ?_
    rintro e W3 ⟨rfl, hb⟩
    have HS3 := Lib.hid (HS2.out.after hb)
    clear hb HS2
    go_wp2_with fail
    refine (alive_c _).mono ?_
    rintro e W4 ⟨rfl, hb⟩
    have HS4 := Lib.hid (HS3.out.after hb)
    clear hb HS3
    go_wp2
    go_ret
    exact ⟨rfl, HS4.out.below⟩
  cases h2 : rightF b
  · skip
    go_enter Try.func6, Try.ntmps6
    have HS0 := Lib.hid (Bs.nil w)
    go_wp2_with (first
      | (refine wpList_alloc_b rfl (some 3) rfl 23 (fA a) (by kernel_rfl) ?_; intro g1 W1 hb hB hg; have HS1 := Lib.hid (HS0.out.new hb hB hg); clear hb hB hg HS0)
      | (refine wpList_alloc_b rfl (some 4) rfl 23 (fA b) (by kernel_rfl) ?_; intro g2 W2 hb hB hg; have HS2 := Lib.hid (HS1.out.new hb hB hg); clear hb hB hg HS1)
      | (refine wpList_load_at rfl 23 _ rfl (HS2.out.at_ 0 rfl) 6 (fV a) rfl _ Try.underlying23 rfl (by kernel_rfl) (Nat.le_of_ble_eq_true rfl) rfl ?_))
    refine (rright_c a _).mono ?_
    rintro e W3 ⟨rfl, hb⟩
    have HS3 := Lib.hid (HS2.out.after hb)
    clear hb HS2
    go_wp2_with (refine wpList_load_g (by kernel_rfl) 23 _ rfl (HS3.out.at_ 1 rfl) 6 (fV b) rfl _ Try.underlying23 rfl (by kernel_rfl) (Nat.le_of_ble_eq_true rfl) rfl ?_)
    refine (rright_c b _).mono ?_
    rintro e W4 ⟨rfl, hb⟩
    have HS4 := Lib.hid (HS3.out.after hb)
    clear hb HS3
    go_wp2_with fail
    refine (alive_c _).mono ?_
    rintro e W5 ⟨rfl, hb⟩
    have HS5 := Lib.hid (HS4.out.after hb)
    clear hb HS4
    go_wp2
    go_ret
    exact ⟨rfl, HS5.out.below⟩
  cases hi : (a.id == b.id)
  rotate_left
  · skip
    go_enter Try.func6, Try.ntmps6
    have HS0 := Lib.hid (Bs.nil w)
    go_wp2_with (first
      | (refine wpList_alloc_b rfl (some 3) rfl 23 (fA a) (by kernel_rfl) ?_; intro g1 W1 hb hB hg; have HS1 := Lib.hid (HS0.out.new hb hB hg); clear hb hB hg HS0)
      | (refine wpList_alloc_b rfl (some 4) rfl 23 (fA b) (by kernel_rfl) ?_; intro g2 W2 hb hB hg; have HS2 := Lib.hid (HS1.out.new hb hB hg); clear hb hB hg HS1)
      | (refine wpList_load_at rfl 23 _ rfl (HS2.out.at_ 0 rfl) 6 (fV a) rfl _ Try.underlying23 rfl (by kernel_rfl) (Nat.le_of_ble_eq_true rfl) rfl ?_))
    refine (rright_c a _).mono ?_
    rintro e W3 ⟨rfl, hb⟩
    have HS3 := Lib.hid (HS2.out.after hb)
    clear hb HS2
    go_wp2_with (refine wpList_load_g (by kernel_rfl) 23 _ rfl (HS3.out.at_ 1 rfl) 6 (fV b) rfl _ Try.underlying23 rfl (by kernel_rfl) (Nat.le_of_ble_eq_true rfl) rfl ?_)
    refine (rright_c b _).mono ?_
    rintro e W4 ⟨rfl, hb⟩
    have HS4 := Lib.hid (HS3.out.after hb)
    clear hb HS3
    obtain ⟨r0a, r0b, r0c⟩ := HS4.out.rules 0 rfl
    obtain ⟨r1a, r1b, r1c⟩ := HS4.out.rules 1 rfl
    go_wp2_with fail
    go_wp2_with fail
    refine (alive_c _).mono ?_
    rintro e W5 ⟨rfl, hb⟩
    have HS5 := Lib.hid (HS4.out.after hb)
    clear hb HS4 r0a r0b r0c r1a r1b r1c
    go_wp2
    go_ret
    exact ⟨rfl, HS5.out.below⟩
  rcases Int.lt_or_le now 0 with h3 | h3
  · skip
    go_enter Try.func6, Try.ntmps6
    have HS0 := Lib.hid (Bs.nil w)
    go_wp2_with (first
      | (refine wpList_alloc_b rfl (some 3) rfl 23 (fA a) (by kernel_rfl) ?_; intro g1 W1 hb hB hg; have HS1 := Lib.hid (HS0.out.new hb hB hg); clear hb hB hg HS0)
      | (refine wpList_alloc_b rfl (some 4) rfl 23 (fA b) (by kernel_rfl) ?_; intro g2 W2 hb hB hg; have HS2 := Lib.hid (HS1.out.new hb hB hg); clear hb hB hg HS1)
      | (refine wpList_load_at rfl 23 _ rfl (HS2.out.at_ 0 rfl) 6 (fV a) rfl _ Try.underlying23 rfl (by kernel_rfl) (Nat.le_of_ble_eq_true rfl) rfl ?_))
    refine (rright_c a _).mono ?_
    rintro e W3 ⟨rfl, hb⟩
    have HS3 := Lib.hid (HS2.out.after hb)
    clear hb HS2
    go_wp2_with (refine wpList_load_g (by kernel_rfl) 23 _ rfl (HS3.out.at_ 1 rfl) 6 (fV b) rfl _ Try.underlying23 rfl (by kernel_rfl) (Nat.le_of_ble_eq_true rfl) rfl ?_)
    refine (rright_c b _).mono ?_
    rintro e W4 ⟨rfl, hb⟩
    have HS4 := Lib.hid (HS3.out.after hb)
    clear hb HS3
    obtain ⟨r0a, r0b, r0c⟩ := HS4.out.rules 0 rfl
    obtain ⟨r1a, r1b, r1c⟩ := HS4.out.rules 1 rfl
    go_wp2_with fail
    go_wp2_with fail
    refine (alive_c _).mono ?_
    rintro e W5 ⟨rfl, hb⟩
    have HS5 := Lib.hid (HS4.out.after hb)
    clear hb HS4 r0a r0b r0c r1a r1b r1c
    go_wp2
    go_ret
    exact ⟨rfl, HS5.out.below⟩
  rcases Int.lt_or_le 1099511627776 now with h4 | h4
  · skip
    go_enter Try.func6, Try.ntmps6
    have HS0 := Lib.hid (Bs.nil w)
    go_wp2_with (first
      | (refine wpList_alloc_b rfl (some 3) rfl 23 (fA a) (by kernel_rfl) ?_; intro g1 W1 hb hB hg; have HS1 := Lib.hid (HS0.out.new hb hB hg); clear hb hB hg HS0)
      | (refine wpList_alloc_b rfl (some 4) rfl 23 (fA b) (by kernel_rfl) ?_; intro g2 W2 hb hB hg; have HS2 := Lib.hid (HS1.out.new hb hB hg); clear hb hB hg HS1)
      | (refine wpList_load_at rfl 23 _ rfl (HS2.out.at_ 0 rfl) 6 (fV a) rfl _ Try.underlying23 rfl (by kernel_rfl) (Nat.le_of_ble_eq_true rfl) rfl ?_))
    refine (rright_c a _).mono ?_
    rintro e W3 ⟨rfl, hb⟩
    have HS3 := Lib.hid (HS2.out.after hb)
    clear hb HS2
    go_wp2_with (refine wpList_load_g (by kernel_rfl) 23 _ rfl (HS3.out.at_ 1 rfl) 6 (fV b) rfl _ Try.underlying23 rfl (by kernel_rfl) (Nat.le_of_ble_eq_true rfl) rfl ?_)
    refine (rright_c b _).mono ?_
    rintro e W4 ⟨rfl, hb⟩
    have HS4 := Lib.hid (HS3.out.after hb)
    clear hb HS3
    obtain ⟨r0a, r0b, r0c⟩ := HS4.out.rules 0 rfl
    obtain ⟨r1a, r1b, r1c⟩ := HS4.out.rules 1 rfl
    go_wp2_with fail
    go_wp2_with fail
    refine (alive_c _).mono ?_
    rintro e W5 ⟨rfl, hb⟩
    have HS5 := Lib.hid (HS4.out.after hb)
    clear hb HS4 r0a r0b r0c r1a r1b r1c
    go_wp2
    go_ret
    exact ⟨rfl, HS5.out.below⟩
  have hm := may_alone h3 h4
  have HN := Lib.hid (fun w => alone_now (a := a) (b := b) h1 h2 hm.1 (pts_none a now) (pts_none b now) w)
  have HP := Lib.hid (fun w => alone_now (a := a) (b := b) h1 h2 hm.2.1 (pts_part a now) (pts_part b now) w)
  have HQ := Lib.hid (fun w => alone_now (a := a) (b := b) h1 h2 hm.2.2.1 (pts_qos a now) (pts_qos b now) w)
  have HR := Lib.hid (fun w => alone_now (a := a) (b := b) h1 h2 hm.2.2.2.1 (pts_share a now) (pts_share b now) w)
  have HZ := Lib.hid (fun w => alone_now (a := a) (b := b) h1 h2 hm.2.2.2.2 (pts_size a now) (pts_size b now) w)
  clear hm
  have hj : (a.id == b.id) = false := hi
  have hk : ¬ a.id = b.id := by simpa using hi
  clear hi
  rcases Int.lt_trichotomy a.sub b.sub with hs | hs | hs
  · have hf : fstB a b = true := by unfold fstB; rw [decide_eq_true hs]; rfl
    go_enter Try.func6, Try.ntmps6
    have HS0 := Lib.hid (Bs.nil w)
    go_wp2_with (first
      | (refine wpList_alloc_b rfl (some 3) rfl 23 (fA a) (by kernel_rfl) ?_; intro g1 W1 hb hB hg; have HS1 := Lib.hid (HS0.out.new hb hB hg); clear hb hB hg HS0)
      | (refine wpList_alloc_b rfl (some 4) rfl 23 (fA b) (by kernel_rfl) ?_; intro g2 W2 hb hB hg; have HS2 := Lib.hid (HS1.out.new hb hB hg); clear hb hB hg HS1)
      | (refine wpList_load_at rfl 23 _ rfl (HS2.out.at_ 0 rfl) 6 (fV a) rfl _ Try.underlying23 rfl (by kernel_rfl) (Nat.le_of_ble_eq_true rfl) rfl ?_))
    refine (rright_c a _).mono ?_
    rintro e W3 ⟨rfl, hb⟩
    have HS3 := Lib.hid (HS2.out.after hb)
    clear hb HS2
    go_wp2_with (refine wpList_load_g (by kernel_rfl) 23 _ rfl (HS3.out.at_ 1 rfl) 6 (fV b) rfl _ Try.underlying23 rfl (by kernel_rfl) (Nat.le_of_ble_eq_true rfl) rfl ?_)
    refine (rright_c b _).mono ?_
    rintro e W4 ⟨rfl, hb⟩
    have HS4 := Lib.hid (HS3.out.after hb)
    clear hb HS3
    obtain ⟨r0a, r0b, r0c⟩ := HS4.out.rules 0 rfl
    obtain ⟨r1a, r1b, r1c⟩ := HS4.out.rules 1 rfl
    go_wp2_with fail
    clear h1 h2
    go_wp2_with fail
    refine region_b (Bs w _) (by kernel_rfl) (by kernel_rfl) HS4.out ?_
    clear HS4 r0a r0b r0c r1a r1b r1c
    intro W5 hS
    have HS5 := Lib.hid hS
    clear hS
    repeat (first | (refine wpQuiet_load_b (by kernel_rfl) 23 _ rfl (HS5.out.at_ 0 rfl) 6 (fV a) rfl _ Try.underlying23 rfl (by kernel_rfl) (Nat.le_of_ble_eq_true rfl) rfl ?_) | (refine wpQuiet_load_b (by kernel_rfl) 23 _ rfl (HS5.out.at_ 1 rfl) 6 (fV b) rfl _ Try.underlying23 rfl (by kernel_rfl) (Nat.le_of_ble_eq_true rfl) rfl ?_) | go_big_quiet_step (first | with_reducible exact Calls.regrown_of (facts_c a _) | with_reducible exact Calls.regrown_of (facts_c b _) | with_reducible exact Calls.regrown_of (HN.out _)) | quiet_step (first | with_reducible exact Calls.regrown_of (facts_c a _) | with_reducible exact Calls.regrown_of (facts_c b _) | with_reducible exact Calls.regrown_of (HN.out _)))
    refine wpQuiet_nil ?_
    intro W6 hb
    have HS6 := Lib.hid (HS5.out.after hb)
    clear hb HS5
    obtain ⟨r0a, r0b, r0c⟩ := HS6.out.rules 0 rfl
    obtain ⟨r1a, r1b, r1c⟩ := HS6.out.rules 1 rfl
    go_wp2_with (refine wpList_build_b rfl (some 98) rfl 45 4 (#[.int .i64 0, .int .i64 0, .int .i64 1000, .int .i64 0, .int .i64 0, .int .i64 1, .int .i64 a.prt, .int .i64 b.prt, .int .i64 0, .int .i64 0, .int .i64 0, .int .i64 1000, .int .i64 0, .int .i64 1, .int .i64 a.qos, .int .i64 b.qos, .int .i64 0, .int .i64 0, .int .i64 0, .int .i64 0, .int .i64 1000, .int .i64 1, .int .i64 a.shr, .int .i64 b.shr, .int .i64 0, .int .i64 256, .int .i64 0, .int .i64 0, .int .i64 0, .int .i64 1, .int .i64 a.nod, .int .i64 b.nod]) (by kernel_rfl) ?_; intro g7 W7 hb hB hg; have HS7 := Lib.hid (HS6.out.new hb hB hg); clear hb hB hg HS6; clear r0a r0b r0c r1a r1b r1c)
    go_loopw [100] (fun i wr => ∃ k : Nat, k ≤ 4 ∧ i = .int .i64 k ∧ Bs w [⟨g1, 23, fA a⟩, ⟨g2, 23, fA b⟩, ⟨g7, 45, #[.int .i64 0, .int .i64 0, .int .i64 1000, .int .i64 0, .int .i64 0, .int .i64 1, .int .i64 a.prt, .int .i64 b.prt, .int .i64 0, .int .i64 0, .int .i64 0, .int .i64 1000, .int .i64 0, .int .i64 1, .int .i64 a.qos, .int .i64 b.qos, .int .i64 0, .int .i64 0, .int .i64 0, .int .i64 0, .int .i64 1000, .int .i64 1, .int .i64 a.shr, .int .i64 b.shr, .int .i64 0, .int .i64 256, .int .i64 0, .int .i64 0, .int .i64 0, .int .i64 1, .int .i64 a.nod, .int .i64 b.nod]⟩] wr) (fun i _ => 4 - (intOf i).toNat)
    case atStart => exact ⟨0, by omega, rfl, HS7.out⟩
    case round =>
      obtain ⟨k, hk, rfl, hS⟩ := hrel
      clear HS7 
      have HS8 := Lib.hid hS
      clear hS
      match k, hk with
      | 0, _ =>
        go_wp2_with (first
          | (refine wpList_load_at rfl 45 _ rfl (HS8.out.at_ 2 rfl) 8 (.agg #[.int .i64 0, .int .i64 0, .int .i64 1000, .int .i64 0, .int .i64 0, .int .i64 1, .int .i64 a.prt, .int .i64 b.prt]) rfl _ Try.underlying45 rfl (by kernel_rfl) (Nat.le_of_ble_eq_true rfl) rfl ?_)
          | (refine wpList_alloc_b rfl (some 11) rfl 45 (#[.int .i64 0, .int .i64 0, .int .i64 0, .int .i64 0, .int .i64 0, .int .i64 0, .int .i64 0, .int .i64 0]) (by kernel_rfl) ?_; intro g9 W9 hb hB hg; have HS9 := Lib.hid (HS8.out.new hb hB hg); clear hb hB hg HS8)
          | (refine wpList_store_at rfl 45 _ _ rfl (HS9.out.at_ 3 rfl) (.agg #[.int .i64 0, .int .i64 0, .int .i64 1000, .int .i64 0, .int .i64 0, .int .i64 1, .int .i64 a.prt, .int .i64 b.prt]) rfl rfl (by kernel_rfl) (Nat.le_of_ble_eq_true rfl) (by kernel_rfl) ?_; intro W10 hB hP; have HS10 := Lib.hid (HS9.out.put 3 rfl (new := #[.int .i64 0, .int .i64 0, .int .i64 1000, .int .i64 0, .int .i64 0, .int .i64 1, .int .i64 a.prt, .int .i64 b.prt]) hB hP); clear hB hP HS9))
        refine region_b (Bs w _) (by kernel_rfl) (by kernel_rfl) HS10.out ?_
        clear HS10
        intro W11 hS
        have HS11 := Lib.hid hS
        clear hS
        repeat (first | (refine wpQuiet_load_b (by kernel_rfl) 23 _ rfl (HS11.out.at_ 0 rfl) 6 (fV a) rfl _ Try.underlying23 rfl (by kernel_rfl) (Nat.le_of_ble_eq_true rfl) rfl ?_) | (refine wpQuiet_load_b (by kernel_rfl) 23 _ rfl (HS11.out.at_ 1 rfl) 6 (fV b) rfl _ Try.underlying23 rfl (by kernel_rfl) (Nat.le_of_ble_eq_true rfl) rfl ?_) | (refine wpQuiet_load_b (by kernel_rfl) 31 _ rfl (HS11.out.at_ 3 rfl) 6 (.agg #[.int .i64 0, .int .i64 0, .int .i64 1000, .int .i64 0, .int .i64 0, .int .i64 1]) rfl _ Try.underlying31 rfl (by kernel_rfl) (Nat.le_of_ble_eq_true rfl) rfl ?_) | go_big_quiet_step (first | with_reducible exact Calls.regrown_of (facts_c a _) | with_reducible exact Calls.regrown_of (facts_c b _) | with_reducible exact Calls.regrown_of (HP.out _)) | quiet_step (first | with_reducible exact Calls.regrown_of (facts_c a _) | with_reducible exact Calls.regrown_of (facts_c b _) | with_reducible exact Calls.regrown_of (HP.out _)))
        refine wpQuiet_nil ?_
        intro W12 hb
        have HS12 := Lib.hid (HS11.out.after hb)
        clear hb HS11
        rcases Int.lt_trichotomy b.prt a.prt with ht | ht | ht
        · skip
          obtain ⟨r3a, r3b, r3c⟩ := HS12.out.rules 3 rfl
          go_wp2_with fail
          go_wp2_with fail
          exact ⟨⟨1, by omega, rfl, (Bs.cut (l := [⟨g1, 23, fA a⟩, ⟨g2, 23, fA b⟩, ⟨g7, 45, #[.int .i64 0, .int .i64 0, .int .i64 1000, .int .i64 0, .int .i64 0, .int .i64 1, .int .i64 a.prt, .int .i64 b.prt, .int .i64 0, .int .i64 0, .int .i64 0, .int .i64 1000, .int .i64 0, .int .i64 1, .int .i64 a.qos, .int .i64 b.qos, .int .i64 0, .int .i64 0, .int .i64 0, .int .i64 0, .int .i64 1000, .int .i64 1, .int .i64 a.shr, .int .i64 b.shr, .int .i64 0, .int .i64 256, .int .i64 0, .int .i64 0, .int .i64 0, .int .i64 1, .int .i64 a.nod, .int .i64 b.nod]⟩]) (k := [⟨g9, 45, #[.int .i64 0, .int .i64 0, .int .i64 1000, .int .i64 0, .int .i64 0, .int .i64 1, .int .i64 a.prt, .int .i64 b.prt]⟩]) HS12.out)⟩, by simp [intOf]⟩
        · skip
          have hz : (a.prt == b.prt) = true := by simp [ht]
          have hy : ¬ b.prt < a.prt := by omega
          have hx : decide (a.prt = b.prt) = true := decide_eq_true ht.symm
          clear ht
          obtain ⟨r3a, r3b, r3c⟩ := HS12.out.rules 3 rfl
          go_wp2_with fail
          go_wp2_with fail
          exact ⟨⟨1, by omega, rfl, (Bs.cut (l := [⟨g1, 23, fA a⟩, ⟨g2, 23, fA b⟩, ⟨g7, 45, #[.int .i64 0, .int .i64 0, .int .i64 1000, .int .i64 0, .int .i64 0, .int .i64 1, .int .i64 a.prt, .int .i64 b.prt, .int .i64 0, .int .i64 0, .int .i64 0, .int .i64 1000, .int .i64 0, .int .i64 1, .int .i64 a.qos, .int .i64 b.qos, .int .i64 0, .int .i64 0, .int .i64 0, .int .i64 0, .int .i64 1000, .int .i64 1, .int .i64 a.shr, .int .i64 b.shr, .int .i64 0, .int .i64 256, .int .i64 0, .int .i64 0, .int .i64 0, .int .i64 1, .int .i64 a.nod, .int .i64 b.nod]⟩]) (k := [⟨g9, 45, #[.int .i64 0, .int .i64 0, .int .i64 1000, .int .i64 0, .int .i64 0, .int .i64 1, .int .i64 a.prt, .int .i64 b.prt]⟩]) HS12.out)⟩, by simp [intOf]⟩
        · skip
          have hz : (a.prt == b.prt) = false := by rw [beq_eq_false_iff_ne]; omega
          have hy : ¬ b.prt < a.prt := by omega
          have hx : decide (a.prt = b.prt) = false := decide_eq_false (by omega)
          clear ht
          obtain ⟨r3a, r3b, r3c⟩ := HS12.out.rules 3 rfl
          go_wp2_with fail
          go_wp2_with fail
          exact ⟨⟨1, by omega, rfl, (Bs.cut (l := [⟨g1, 23, fA a⟩, ⟨g2, 23, fA b⟩, ⟨g7, 45, #[.int .i64 0, .int .i64 0, .int .i64 1000, .int .i64 0, .int .i64 0, .int .i64 1, .int .i64 a.prt, .int .i64 b.prt, .int .i64 0, .int .i64 0, .int .i64 0, .int .i64 1000, .int .i64 0, .int .i64 1, .int .i64 a.qos, .int .i64 b.qos, .int .i64 0, .int .i64 0, .int .i64 0, .int .i64 0, .int .i64 1000, .int .i64 1, .int .i64 a.shr, .int .i64 b.shr, .int .i64 0, .int .i64 256, .int .i64 0, .int .i64 0, .int .i64 0, .int .i64 1, .int .i64 a.nod, .int .i64 b.nod]⟩]) (k := [⟨g9, 45, #[.int .i64 0, .int .i64 0, .int .i64 1000, .int .i64 0, .int .i64 0, .int .i64 1, .int .i64 a.prt, .int .i64 b.prt]⟩]) HS12.out)⟩, by simp [intOf]⟩
      | 1, _ =>
        go_wp2_with (first
          | (refine wpList_load_at rfl 45 _ rfl (HS8.out.at_ 2 rfl) 8 (.agg #[.int .i64 0, .int .i64 0, .int .i64 0, .int .i64 1000, .int .i64 0, .int .i64 1, .int .i64 a.qos, .int .i64 b.qos]) rfl _ Try.underlying45 rfl (by kernel_rfl) (Nat.le_of_ble_eq_true rfl) rfl ?_)
          | (refine wpList_alloc_b rfl (some 11) rfl 45 (#[.int .i64 0, .int .i64 0, .int .i64 0, .int .i64 0, .int .i64 0, .int .i64 0, .int .i64 0, .int .i64 0]) (by kernel_rfl) ?_; intro g9 W9 hb hB hg; have HS9 := Lib.hid (HS8.out.new hb hB hg); clear hb hB hg HS8)
          | (refine wpList_store_at rfl 45 _ _ rfl (HS9.out.at_ 3 rfl) (.agg #[.int .i64 0, .int .i64 0, .int .i64 0, .int .i64 1000, .int .i64 0, .int .i64 1, .int .i64 a.qos, .int .i64 b.qos]) rfl rfl (by kernel_rfl) (Nat.le_of_ble_eq_true rfl) (by kernel_rfl) ?_; intro W10 hB hP; have HS10 := Lib.hid (HS9.out.put 3 rfl (new := #[.int .i64 0, .int .i64 0, .int .i64 0, .int .i64 1000, .int .i64 0, .int .i64 1, .int .i64 a.qos, .int .i64 b.qos]) hB hP); clear hB hP HS9))
        refine region_b (Bs w _) (by kernel_rfl) (by kernel_rfl) HS10.out ?_
        clear HS10
        intro W11 hS
        have HS11 := Lib.hid hS
        clear hS
        repeat (first | (refine wpQuiet_load_b (by kernel_rfl) 23 _ rfl (HS11.out.at_ 0 rfl) 6 (fV a) rfl _ Try.underlying23 rfl (by kernel_rfl) (Nat.le_of_ble_eq_true rfl) rfl ?_) | (refine wpQuiet_load_b (by kernel_rfl) 23 _ rfl (HS11.out.at_ 1 rfl) 6 (fV b) rfl _ Try.underlying23 rfl (by kernel_rfl) (Nat.le_of_ble_eq_true rfl) rfl ?_) | (refine wpQuiet_load_b (by kernel_rfl) 31 _ rfl (HS11.out.at_ 3 rfl) 6 (.agg #[.int .i64 0, .int .i64 0, .int .i64 0, .int .i64 1000, .int .i64 0, .int .i64 1]) rfl _ Try.underlying31 rfl (by kernel_rfl) (Nat.le_of_ble_eq_true rfl) rfl ?_) | go_big_quiet_step (first | with_reducible exact Calls.regrown_of (facts_c a _) | with_reducible exact Calls.regrown_of (facts_c b _) | with_reducible exact Calls.regrown_of (HQ.out _)) | quiet_step (first | with_reducible exact Calls.regrown_of (facts_c a _) | with_reducible exact Calls.regrown_of (facts_c b _) | with_reducible exact Calls.regrown_of (HQ.out _)))
        refine wpQuiet_nil ?_
        intro W12 hb
        have HS12 := Lib.hid (HS11.out.after hb)
        clear hb HS11
        rcases Int.lt_trichotomy b.qos a.qos with ht | ht | ht
        · skip
          obtain ⟨r3a, r3b, r3c⟩ := HS12.out.rules 3 rfl
          go_wp2_with fail
          go_wp2_with fail
          exact ⟨⟨2, by omega, rfl, (Bs.cut (l := [⟨g1, 23, fA a⟩, ⟨g2, 23, fA b⟩, ⟨g7, 45, #[.int .i64 0, .int .i64 0, .int .i64 1000, .int .i64 0, .int .i64 0, .int .i64 1, .int .i64 a.prt, .int .i64 b.prt, .int .i64 0, .int .i64 0, .int .i64 0, .int .i64 1000, .int .i64 0, .int .i64 1, .int .i64 a.qos, .int .i64 b.qos, .int .i64 0, .int .i64 0, .int .i64 0, .int .i64 0, .int .i64 1000, .int .i64 1, .int .i64 a.shr, .int .i64 b.shr, .int .i64 0, .int .i64 256, .int .i64 0, .int .i64 0, .int .i64 0, .int .i64 1, .int .i64 a.nod, .int .i64 b.nod]⟩]) (k := [⟨g9, 45, #[.int .i64 0, .int .i64 0, .int .i64 0, .int .i64 1000, .int .i64 0, .int .i64 1, .int .i64 a.qos, .int .i64 b.qos]⟩]) HS12.out)⟩, by simp [intOf]⟩
        · skip
          have hz : (a.qos == b.qos) = true := by simp [ht]
          have hy : ¬ b.qos < a.qos := by omega
          have hx : decide (a.qos = b.qos) = true := decide_eq_true ht.symm
          clear ht
          obtain ⟨r3a, r3b, r3c⟩ := HS12.out.rules 3 rfl
          go_wp2_with fail
          go_wp2_with fail
          exact ⟨⟨2, by omega, rfl, (Bs.cut (l := [⟨g1, 23, fA a⟩, ⟨g2, 23, fA b⟩, ⟨g7, 45, #[.int .i64 0, .int .i64 0, .int .i64 1000, .int .i64 0, .int .i64 0, .int .i64 1, .int .i64 a.prt, .int .i64 b.prt, .int .i64 0, .int .i64 0, .int .i64 0, .int .i64 1000, .int .i64 0, .int .i64 1, .int .i64 a.qos, .int .i64 b.qos, .int .i64 0, .int .i64 0, .int .i64 0, .int .i64 0, .int .i64 1000, .int .i64 1, .int .i64 a.shr, .int .i64 b.shr, .int .i64 0, .int .i64 256, .int .i64 0, .int .i64 0, .int .i64 0, .int .i64 1, .int .i64 a.nod, .int .i64 b.nod]⟩]) (k := [⟨g9, 45, #[.int .i64 0, .int .i64 0, .int .i64 0, .int .i64 1000, .int .i64 0, .int .i64 1, .int .i64 a.qos, .int .i64 b.qos]⟩]) HS12.out)⟩, by simp [intOf]⟩
        · skip
          have hz : (a.qos == b.qos) = false := by rw [beq_eq_false_iff_ne]; omega
          have hy : ¬ b.qos < a.qos := by omega
          have hx : decide (a.qos = b.qos) = false := decide_eq_false (by omega)
          clear ht
          obtain ⟨r3a, r3b, r3c⟩ := HS12.out.rules 3 rfl
          go_wp2_with fail
          go_wp2_with fail
          exact ⟨⟨2, by omega, rfl, (Bs.cut (l := [⟨g1, 23, fA a⟩, ⟨g2, 23, fA b⟩, ⟨g7, 45, #[.int .i64 0, .int .i64 0, .int .i64 1000, .int .i64 0, .int .i64 0, .int .i64 1, .int .i64 a.prt, .int .i64 b.prt, .int .i64 0, .int .i64 0, .int .i64 0, .int .i64 1000, .int .i64 0, .int .i64 1, .int .i64 a.qos, .int .i64 b.qos, .int .i64 0, .int .i64 0, .int .i64 0, .int .i64 0, .int .i64 1000, .int .i64 1, .int .i64 a.shr, .int .i64 b.shr, .int .i64 0, .int .i64 256, .int .i64 0, .int .i64 0, .int .i64 0, .int .i64 1, .int .i64 a.nod, .int .i64 b.nod]⟩]) (k := [⟨g9, 45, #[.int .i64 0, .int .i64 0, .int .i64 0, .int .i64 1000, .int .i64 0, .int .i64 1, .int .i64 a.qos, .int .i64 b.qos]⟩]) HS12.out)⟩, by simp [intOf]⟩
      | 2, _ =>
        go_wp2_with (first
          | (refine wpList_load_at rfl 45 _ rfl (HS8.out.at_ 2 rfl) 8 (.agg #[.int .i64 0, .int .i64 0, .int .i64 0, .int .i64 0, .int .i64 1000, .int .i64 1, .int .i64 a.shr, .int .i64 b.shr]) rfl _ Try.underlying45 rfl (by kernel_rfl) (Nat.le_of_ble_eq_true rfl) rfl ?_)
          | (refine wpList_alloc_b rfl (some 11) rfl 45 (#[.int .i64 0, .int .i64 0, .int .i64 0, .int .i64 0, .int .i64 0, .int .i64 0, .int .i64 0, .int .i64 0]) (by kernel_rfl) ?_; intro g9 W9 hb hB hg; have HS9 := Lib.hid (HS8.out.new hb hB hg); clear hb hB hg HS8)
          | (refine wpList_store_at rfl 45 _ _ rfl (HS9.out.at_ 3 rfl) (.agg #[.int .i64 0, .int .i64 0, .int .i64 0, .int .i64 0, .int .i64 1000, .int .i64 1, .int .i64 a.shr, .int .i64 b.shr]) rfl rfl (by kernel_rfl) (Nat.le_of_ble_eq_true rfl) (by kernel_rfl) ?_; intro W10 hB hP; have HS10 := Lib.hid (HS9.out.put 3 rfl (new := #[.int .i64 0, .int .i64 0, .int .i64 0, .int .i64 0, .int .i64 1000, .int .i64 1, .int .i64 a.shr, .int .i64 b.shr]) hB hP); clear hB hP HS9))
        refine region_b (Bs w _) (by kernel_rfl) (by kernel_rfl) HS10.out ?_
        clear HS10
        intro W11 hS
        have HS11 := Lib.hid hS
        clear hS
        repeat (first | (refine wpQuiet_load_b (by kernel_rfl) 23 _ rfl (HS11.out.at_ 0 rfl) 6 (fV a) rfl _ Try.underlying23 rfl (by kernel_rfl) (Nat.le_of_ble_eq_true rfl) rfl ?_) | (refine wpQuiet_load_b (by kernel_rfl) 23 _ rfl (HS11.out.at_ 1 rfl) 6 (fV b) rfl _ Try.underlying23 rfl (by kernel_rfl) (Nat.le_of_ble_eq_true rfl) rfl ?_) | (refine wpQuiet_load_b (by kernel_rfl) 31 _ rfl (HS11.out.at_ 3 rfl) 6 (.agg #[.int .i64 0, .int .i64 0, .int .i64 0, .int .i64 0, .int .i64 1000, .int .i64 1]) rfl _ Try.underlying31 rfl (by kernel_rfl) (Nat.le_of_ble_eq_true rfl) rfl ?_) | go_big_quiet_step (first | with_reducible exact Calls.regrown_of (facts_c a _) | with_reducible exact Calls.regrown_of (facts_c b _) | with_reducible exact Calls.regrown_of (HR.out _)) | quiet_step (first | with_reducible exact Calls.regrown_of (facts_c a _) | with_reducible exact Calls.regrown_of (facts_c b _) | with_reducible exact Calls.regrown_of (HR.out _)))
        refine wpQuiet_nil ?_
        intro W12 hb
        have HS12 := Lib.hid (HS11.out.after hb)
        clear hb HS11
        rcases Int.lt_trichotomy b.shr a.shr with ht | ht | ht
        · skip
          obtain ⟨r3a, r3b, r3c⟩ := HS12.out.rules 3 rfl
          go_wp2_with fail
          go_wp2_with fail
          exact ⟨⟨3, by omega, rfl, (Bs.cut (l := [⟨g1, 23, fA a⟩, ⟨g2, 23, fA b⟩, ⟨g7, 45, #[.int .i64 0, .int .i64 0, .int .i64 1000, .int .i64 0, .int .i64 0, .int .i64 1, .int .i64 a.prt, .int .i64 b.prt, .int .i64 0, .int .i64 0, .int .i64 0, .int .i64 1000, .int .i64 0, .int .i64 1, .int .i64 a.qos, .int .i64 b.qos, .int .i64 0, .int .i64 0, .int .i64 0, .int .i64 0, .int .i64 1000, .int .i64 1, .int .i64 a.shr, .int .i64 b.shr, .int .i64 0, .int .i64 256, .int .i64 0, .int .i64 0, .int .i64 0, .int .i64 1, .int .i64 a.nod, .int .i64 b.nod]⟩]) (k := [⟨g9, 45, #[.int .i64 0, .int .i64 0, .int .i64 0, .int .i64 0, .int .i64 1000, .int .i64 1, .int .i64 a.shr, .int .i64 b.shr]⟩]) HS12.out)⟩, by simp [intOf]⟩
        · skip
          have hz : (a.shr == b.shr) = true := by simp [ht]
          have hy : ¬ b.shr < a.shr := by omega
          have hx : decide (a.shr = b.shr) = true := decide_eq_true ht.symm
          clear ht
          obtain ⟨r3a, r3b, r3c⟩ := HS12.out.rules 3 rfl
          go_wp2_with fail
          go_wp2_with fail
          exact ⟨⟨3, by omega, rfl, (Bs.cut (l := [⟨g1, 23, fA a⟩, ⟨g2, 23, fA b⟩, ⟨g7, 45, #[.int .i64 0, .int .i64 0, .int .i64 1000, .int .i64 0, .int .i64 0, .int .i64 1, .int .i64 a.prt, .int .i64 b.prt, .int .i64 0, .int .i64 0, .int .i64 0, .int .i64 1000, .int .i64 0, .int .i64 1, .int .i64 a.qos, .int .i64 b.qos, .int .i64 0, .int .i64 0, .int .i64 0, .int .i64 0, .int .i64 1000, .int .i64 1, .int .i64 a.shr, .int .i64 b.shr, .int .i64 0, .int .i64 256, .int .i64 0, .int .i64 0, .int .i64 0, .int .i64 1, .int .i64 a.nod, .int .i64 b.nod]⟩]) (k := [⟨g9, 45, #[.int .i64 0, .int .i64 0, .int .i64 0, .int .i64 0, .int .i64 1000, .int .i64 1, .int .i64 a.shr, .int .i64 b.shr]⟩]) HS12.out)⟩, by simp [intOf]⟩
        · skip
          have hz : (a.shr == b.shr) = false := by rw [beq_eq_false_iff_ne]; omega
          have hy : ¬ b.shr < a.shr := by omega
          have hx : decide (a.shr = b.shr) = false := decide_eq_false (by omega)
          clear ht
          obtain ⟨r3a, r3b, r3c⟩ := HS12.out.rules 3 rfl
          go_wp2_with fail
          go_wp2_with fail
          exact ⟨⟨3, by omega, rfl, (Bs.cut (l := [⟨g1, 23, fA a⟩, ⟨g2, 23, fA b⟩, ⟨g7, 45, #[.int .i64 0, .int .i64 0, .int .i64 1000, .int .i64 0, .int .i64 0, .int .i64 1, .int .i64 a.prt, .int .i64 b.prt, .int .i64 0, .int .i64 0, .int .i64 0, .int .i64 1000, .int .i64 0, .int .i64 1, .int .i64 a.qos, .int .i64 b.qos, .int .i64 0, .int .i64 0, .int .i64 0, .int .i64 0, .int .i64 1000, .int .i64 1, .int .i64 a.shr, .int .i64 b.shr, .int .i64 0, .int .i64 256, .int .i64 0, .int .i64 0, .int .i64 0, .int .i64 1, .int .i64 a.nod, .int .i64 b.nod]⟩]) (k := [⟨g9, 45, #[.int .i64 0, .int .i64 0, .int .i64 0, .int .i64 0, .int .i64 1000, .int .i64 1, .int .i64 a.shr, .int .i64 b.shr]⟩]) HS12.out)⟩, by simp [intOf]⟩
      | 3, _ =>
        go_wp2_with (first
          | (refine wpList_load_at rfl 45 _ rfl (HS8.out.at_ 2 rfl) 8 (.agg #[.int .i64 0, .int .i64 256, .int .i64 0, .int .i64 0, .int .i64 0, .int .i64 1, .int .i64 a.nod, .int .i64 b.nod]) rfl _ Try.underlying45 rfl (by kernel_rfl) (Nat.le_of_ble_eq_true rfl) rfl ?_)
          | (refine wpList_alloc_b rfl (some 11) rfl 45 (#[.int .i64 0, .int .i64 0, .int .i64 0, .int .i64 0, .int .i64 0, .int .i64 0, .int .i64 0, .int .i64 0]) (by kernel_rfl) ?_; intro g9 W9 hb hB hg; have HS9 := Lib.hid (HS8.out.new hb hB hg); clear hb hB hg HS8)
          | (refine wpList_store_at rfl 45 _ _ rfl (HS9.out.at_ 3 rfl) (.agg #[.int .i64 0, .int .i64 256, .int .i64 0, .int .i64 0, .int .i64 0, .int .i64 1, .int .i64 a.nod, .int .i64 b.nod]) rfl rfl (by kernel_rfl) (Nat.le_of_ble_eq_true rfl) (by kernel_rfl) ?_; intro W10 hB hP; have HS10 := Lib.hid (HS9.out.put 3 rfl (new := #[.int .i64 0, .int .i64 256, .int .i64 0, .int .i64 0, .int .i64 0, .int .i64 1, .int .i64 a.nod, .int .i64 b.nod]) hB hP); clear hB hP HS9))
        refine region_b (Bs w _) (by kernel_rfl) (by kernel_rfl) HS10.out ?_
        clear HS10
        intro W11 hS
        have HS11 := Lib.hid hS
        clear hS
        repeat (first | (refine wpQuiet_load_b (by kernel_rfl) 23 _ rfl (HS11.out.at_ 0 rfl) 6 (fV a) rfl _ Try.underlying23 rfl (by kernel_rfl) (Nat.le_of_ble_eq_true rfl) rfl ?_) | (refine wpQuiet_load_b (by kernel_rfl) 23 _ rfl (HS11.out.at_ 1 rfl) 6 (fV b) rfl _ Try.underlying23 rfl (by kernel_rfl) (Nat.le_of_ble_eq_true rfl) rfl ?_) | (refine wpQuiet_load_b (by kernel_rfl) 31 _ rfl (HS11.out.at_ 3 rfl) 6 (.agg #[.int .i64 0, .int .i64 256, .int .i64 0, .int .i64 0, .int .i64 0, .int .i64 1]) rfl _ Try.underlying31 rfl (by kernel_rfl) (Nat.le_of_ble_eq_true rfl) rfl ?_) | go_big_quiet_step (first | with_reducible exact Calls.regrown_of (facts_c a _) | with_reducible exact Calls.regrown_of (facts_c b _) | with_reducible exact Calls.regrown_of (HZ.out _)) | quiet_step (first | with_reducible exact Calls.regrown_of (facts_c a _) | with_reducible exact Calls.regrown_of (facts_c b _) | with_reducible exact Calls.regrown_of (HZ.out _)))
        refine wpQuiet_nil ?_
        intro W12 hb
        have HS12 := Lib.hid (HS11.out.after hb)
        clear hb HS11
        rcases Int.lt_trichotomy b.nod a.nod with ht | ht | ht
        · skip
          obtain ⟨r3a, r3b, r3c⟩ := HS12.out.rules 3 rfl
          go_wp2_with fail
          go_wp2_with fail
          exact ⟨⟨4, by omega, rfl, (Bs.cut (l := [⟨g1, 23, fA a⟩, ⟨g2, 23, fA b⟩, ⟨g7, 45, #[.int .i64 0, .int .i64 0, .int .i64 1000, .int .i64 0, .int .i64 0, .int .i64 1, .int .i64 a.prt, .int .i64 b.prt, .int .i64 0, .int .i64 0, .int .i64 0, .int .i64 1000, .int .i64 0, .int .i64 1, .int .i64 a.qos, .int .i64 b.qos, .int .i64 0, .int .i64 0, .int .i64 0, .int .i64 0, .int .i64 1000, .int .i64 1, .int .i64 a.shr, .int .i64 b.shr, .int .i64 0, .int .i64 256, .int .i64 0, .int .i64 0, .int .i64 0, .int .i64 1, .int .i64 a.nod, .int .i64 b.nod]⟩]) (k := [⟨g9, 45, #[.int .i64 0, .int .i64 256, .int .i64 0, .int .i64 0, .int .i64 0, .int .i64 1, .int .i64 a.nod, .int .i64 b.nod]⟩]) HS12.out)⟩, by simp [intOf]⟩
        · skip
          have hz : (a.nod == b.nod) = true := by simp [ht]
          have hy : ¬ b.nod < a.nod := by omega
          have hx : decide (a.nod = b.nod) = true := decide_eq_true ht.symm
          clear ht
          obtain ⟨r3a, r3b, r3c⟩ := HS12.out.rules 3 rfl
          go_wp2_with fail
          go_wp2_with fail
          exact ⟨⟨4, by omega, rfl, (Bs.cut (l := [⟨g1, 23, fA a⟩, ⟨g2, 23, fA b⟩, ⟨g7, 45, #[.int .i64 0, .int .i64 0, .int .i64 1000, .int .i64 0, .int .i64 0, .int .i64 1, .int .i64 a.prt, .int .i64 b.prt, .int .i64 0, .int .i64 0, .int .i64 0, .int .i64 1000, .int .i64 0, .int .i64 1, .int .i64 a.qos, .int .i64 b.qos, .int .i64 0, .int .i64 0, .int .i64 0, .int .i64 0, .int .i64 1000, .int .i64 1, .int .i64 a.shr, .int .i64 b.shr, .int .i64 0, .int .i64 256, .int .i64 0, .int .i64 0, .int .i64 0, .int .i64 1, .int .i64 a.nod, .int .i64 b.nod]⟩]) (k := [⟨g9, 45, #[.int .i64 0, .int .i64 256, .int .i64 0, .int .i64 0, .int .i64 0, .int .i64 1, .int .i64 a.nod, .int .i64 b.nod]⟩]) HS12.out)⟩, by simp [intOf]⟩
        · skip
          have hz : (a.nod == b.nod) = false := by rw [beq_eq_false_iff_ne]; omega
          have hy : ¬ b.nod < a.nod := by omega
          have hx : decide (a.nod = b.nod) = false := decide_eq_false (by omega)
          clear ht
          obtain ⟨r3a, r3b, r3c⟩ := HS12.out.rules 3 rfl
          go_wp2_with fail
          go_wp2_with fail
          exact ⟨⟨4, by omega, rfl, (Bs.cut (l := [⟨g1, 23, fA a⟩, ⟨g2, 23, fA b⟩, ⟨g7, 45, #[.int .i64 0, .int .i64 0, .int .i64 1000, .int .i64 0, .int .i64 0, .int .i64 1, .int .i64 a.prt, .int .i64 b.prt, .int .i64 0, .int .i64 0, .int .i64 0, .int .i64 1000, .int .i64 0, .int .i64 1, .int .i64 a.qos, .int .i64 b.qos, .int .i64 0, .int .i64 0, .int .i64 0, .int .i64 0, .int .i64 1000, .int .i64 1, .int .i64 a.shr, .int .i64 b.shr, .int .i64 0, .int .i64 256, .int .i64 0, .int .i64 0, .int .i64 0, .int .i64 1, .int .i64 a.nod, .int .i64 b.nod]⟩]) (k := [⟨g9, 45, #[.int .i64 0, .int .i64 256, .int .i64 0, .int .i64 0, .int .i64 0, .int .i64 1, .int .i64 a.nod, .int .i64 b.nod]⟩]) HS12.out)⟩, by simp [intOf]⟩
      | 4, _ =>
        go_wp2_with fail
        refine (alive_c _).mono ?_
        rintro e W9 ⟨rfl, hb⟩
        have HS9 := Lib.hid (HS8.out.after hb)
        clear hb HS8
        go_wp2
        go_ret
        exact ⟨rfl, HS9.out.below⟩
  · have hsb : (a.sub == b.sub) = true := by simp [hs]
    have hsl : ¬ a.sub < b.sub := by omega
    rcases Int.lt_or_le a.id b.id with hd | hd
    · have hf : fstB a b = true := by unfold fstB; rw [decide_eq_true hs, decide_eq_true hd]; simp
      clear hs
      go_enter Try.func6, Try.ntmps6
      have HS0 := Lib.hid (Bs.nil w)
      go_wp2_with (first
        | (refine wpList_alloc_b rfl (some 3) rfl 23 (fA a) (by kernel_rfl) ?_; intro g1 W1 hb hB hg; have HS1 := Lib.hid (HS0.out.new hb hB hg); clear hb hB hg HS0)
        | (refine wpList_alloc_b rfl (some 4) rfl 23 (fA b) (by kernel_rfl) ?_; intro g2 W2 hb hB hg; have HS2 := Lib.hid (HS1.out.new hb hB hg); clear hb hB hg HS1)
        | (refine wpList_load_at rfl 23 _ rfl (HS2.out.at_ 0 rfl) 6 (fV a) rfl _ Try.underlying23 rfl (by kernel_rfl) (Nat.le_of_ble_eq_true rfl) rfl ?_))
      refine (rright_c a _).mono ?_
      rintro e W3 ⟨rfl, hb⟩
      have HS3 := Lib.hid (HS2.out.after hb)
      clear hb HS2
      go_wp2_with (refine wpList_load_g (by kernel_rfl) 23 _ rfl (HS3.out.at_ 1 rfl) 6 (fV b) rfl _ Try.underlying23 rfl (by kernel_rfl) (Nat.le_of_ble_eq_true rfl) rfl ?_)
      refine (rright_c b _).mono ?_
      rintro e W4 ⟨rfl, hb⟩
      have HS4 := Lib.hid (HS3.out.after hb)
      clear hb HS3
      obtain ⟨r0a, r0b, r0c⟩ := HS4.out.rules 0 rfl
      obtain ⟨r1a, r1b, r1c⟩ := HS4.out.rules 1 rfl
      go_wp2_with fail
      clear h1 h2
      go_wp2_with fail
      refine region_b (Bs w _) (by kernel_rfl) (by kernel_rfl) HS4.out ?_
      clear HS4 r0a r0b r0c r1a r1b r1c
      intro W5 hS
      have HS5 := Lib.hid hS
      clear hS
      repeat (first | (refine wpQuiet_load_b (by kernel_rfl) 23 _ rfl (HS5.out.at_ 0 rfl) 6 (fV a) rfl _ Try.underlying23 rfl (by kernel_rfl) (Nat.le_of_ble_eq_true rfl) rfl ?_) | (refine wpQuiet_load_b (by kernel_rfl) 23 _ rfl (HS5.out.at_ 1 rfl) 6 (fV b) rfl _ Try.underlying23 rfl (by kernel_rfl) (Nat.le_of_ble_eq_true rfl) rfl ?_) | go_big_quiet_step (first | with_reducible exact Calls.regrown_of (facts_c a _) | with_reducible exact Calls.regrown_of (facts_c b _) | with_reducible exact Calls.regrown_of (HN.out _)) | quiet_step (first | with_reducible exact Calls.regrown_of (facts_c a _) | with_reducible exact Calls.regrown_of (facts_c b _) | with_reducible exact Calls.regrown_of (HN.out _)))
      refine wpQuiet_nil ?_
      intro W6 hb
      have HS6 := Lib.hid (HS5.out.after hb)
      clear hb HS5
      obtain ⟨r0a, r0b, r0c⟩ := HS6.out.rules 0 rfl
      obtain ⟨r1a, r1b, r1c⟩ := HS6.out.rules 1 rfl
      go_wp2_with (refine wpList_build_b rfl (some 98) rfl 45 4 (#[.int .i64 0, .int .i64 0, .int .i64 1000, .int .i64 0, .int .i64 0, .int .i64 1, .int .i64 a.prt, .int .i64 b.prt, .int .i64 0, .int .i64 0, .int .i64 0, .int .i64 1000, .int .i64 0, .int .i64 1, .int .i64 a.qos, .int .i64 b.qos, .int .i64 0, .int .i64 0, .int .i64 0, .int .i64 0, .int .i64 1000, .int .i64 1, .int .i64 a.shr, .int .i64 b.shr, .int .i64 0, .int .i64 256, .int .i64 0, .int .i64 0, .int .i64 0, .int .i64 1, .int .i64 a.nod, .int .i64 b.nod]) (by kernel_rfl) ?_; intro g7 W7 hb hB hg; have HS7 := Lib.hid (HS6.out.new hb hB hg); clear hb hB hg HS6; clear r0a r0b r0c r1a r1b r1c)
      go_loopw [100] (fun i wr => ∃ k : Nat, k ≤ 4 ∧ i = .int .i64 k ∧ Bs w [⟨g1, 23, fA a⟩, ⟨g2, 23, fA b⟩, ⟨g7, 45, #[.int .i64 0, .int .i64 0, .int .i64 1000, .int .i64 0, .int .i64 0, .int .i64 1, .int .i64 a.prt, .int .i64 b.prt, .int .i64 0, .int .i64 0, .int .i64 0, .int .i64 1000, .int .i64 0, .int .i64 1, .int .i64 a.qos, .int .i64 b.qos, .int .i64 0, .int .i64 0, .int .i64 0, .int .i64 0, .int .i64 1000, .int .i64 1, .int .i64 a.shr, .int .i64 b.shr, .int .i64 0, .int .i64 256, .int .i64 0, .int .i64 0, .int .i64 0, .int .i64 1, .int .i64 a.nod, .int .i64 b.nod]⟩] wr) (fun i _ => 4 - (intOf i).toNat)
      case atStart => exact ⟨0, by omega, rfl, HS7.out⟩
      case round =>
        obtain ⟨k, hk, rfl, hS⟩ := hrel
        clear HS7 
        have HS8 := Lib.hid hS
        clear hS
        match k, hk with
        | 0, _ =>
          go_wp2_with (first
            | (refine wpList_load_at rfl 45 _ rfl (HS8.out.at_ 2 rfl) 8 (.agg #[.int .i64 0, .int .i64 0, .int .i64 1000, .int .i64 0, .int .i64 0, .int .i64 1, .int .i64 a.prt, .int .i64 b.prt]) rfl _ Try.underlying45 rfl (by kernel_rfl) (Nat.le_of_ble_eq_true rfl) rfl ?_)
            | (refine wpList_alloc_b rfl (some 11) rfl 45 (#[.int .i64 0, .int .i64 0, .int .i64 0, .int .i64 0, .int .i64 0, .int .i64 0, .int .i64 0, .int .i64 0]) (by kernel_rfl) ?_; intro g9 W9 hb hB hg; have HS9 := Lib.hid (HS8.out.new hb hB hg); clear hb hB hg HS8)
            | (refine wpList_store_at rfl 45 _ _ rfl (HS9.out.at_ 3 rfl) (.agg #[.int .i64 0, .int .i64 0, .int .i64 1000, .int .i64 0, .int .i64 0, .int .i64 1, .int .i64 a.prt, .int .i64 b.prt]) rfl rfl (by kernel_rfl) (Nat.le_of_ble_eq_true rfl) (by kernel_rfl) ?_; intro W10 hB hP; have HS10 := Lib.hid (HS9.out.put 3 rfl (new := #[.int .i64 0, .int .i64 0, .int .i64 1000, .int .i64 0, .int .i64 0, .int .i64 1, .int .i64 a.prt, .int .i64 b.prt]) hB hP); clear hB hP HS9))
          refine region_b (Bs w _) (by kernel_rfl) (by kernel_rfl) HS10.out ?_
          clear HS10
          intro W11 hS
          have HS11 := Lib.hid hS
          clear hS
          repeat (first | (refine wpQuiet_load_b (by kernel_rfl) 23 _ rfl (HS11.out.at_ 0 rfl) 6 (fV a) rfl _ Try.underlying23 rfl (by kernel_rfl) (Nat.le_of_ble_eq_true rfl) rfl ?_) | (refine wpQuiet_load_b (by kernel_rfl) 23 _ rfl (HS11.out.at_ 1 rfl) 6 (fV b) rfl _ Try.underlying23 rfl (by kernel_rfl) (Nat.le_of_ble_eq_true rfl) rfl ?_) | (refine wpQuiet_load_b (by kernel_rfl) 31 _ rfl (HS11.out.at_ 3 rfl) 6 (.agg #[.int .i64 0, .int .i64 0, .int .i64 1000, .int .i64 0, .int .i64 0, .int .i64 1]) rfl _ Try.underlying31 rfl (by kernel_rfl) (Nat.le_of_ble_eq_true rfl) rfl ?_) | go_big_quiet_step (first | with_reducible exact Calls.regrown_of (facts_c a _) | with_reducible exact Calls.regrown_of (facts_c b _) | with_reducible exact Calls.regrown_of (HP.out _)) | quiet_step (first | with_reducible exact Calls.regrown_of (facts_c a _) | with_reducible exact Calls.regrown_of (facts_c b _) | with_reducible exact Calls.regrown_of (HP.out _)))
          refine wpQuiet_nil ?_
          intro W12 hb
          have HS12 := Lib.hid (HS11.out.after hb)
          clear hb HS11
          rcases Int.lt_trichotomy b.prt a.prt with ht | ht | ht
          · skip
            obtain ⟨r3a, r3b, r3c⟩ := HS12.out.rules 3 rfl
            go_wp2_with fail
            go_wp2_with fail
            exact ⟨⟨1, by omega, rfl, (Bs.cut (l := [⟨g1, 23, fA a⟩, ⟨g2, 23, fA b⟩, ⟨g7, 45, #[.int .i64 0, .int .i64 0, .int .i64 1000, .int .i64 0, .int .i64 0, .int .i64 1, .int .i64 a.prt, .int .i64 b.prt, .int .i64 0, .int .i64 0, .int .i64 0, .int .i64 1000, .int .i64 0, .int .i64 1, .int .i64 a.qos, .int .i64 b.qos, .int .i64 0, .int .i64 0, .int .i64 0, .int .i64 0, .int .i64 1000, .int .i64 1, .int .i64 a.shr, .int .i64 b.shr, .int .i64 0, .int .i64 256, .int .i64 0, .int .i64 0, .int .i64 0, .int .i64 1, .int .i64 a.nod, .int .i64 b.nod]⟩]) (k := [⟨g9, 45, #[.int .i64 0, .int .i64 0, .int .i64 1000, .int .i64 0, .int .i64 0, .int .i64 1, .int .i64 a.prt, .int .i64 b.prt]⟩]) HS12.out)⟩, by simp [intOf]⟩
          · skip
            have hz : (a.prt == b.prt) = true := by simp [ht]
            have hy : ¬ b.prt < a.prt := by omega
            have hx : decide (a.prt = b.prt) = true := decide_eq_true ht.symm
            clear ht
            obtain ⟨r3a, r3b, r3c⟩ := HS12.out.rules 3 rfl
            go_wp2_with fail
            go_wp2_with fail
            exact ⟨⟨1, by omega, rfl, (Bs.cut (l := [⟨g1, 23, fA a⟩, ⟨g2, 23, fA b⟩, ⟨g7, 45, #[.int .i64 0, .int .i64 0, .int .i64 1000, .int .i64 0, .int .i64 0, .int .i64 1, .int .i64 a.prt, .int .i64 b.prt, .int .i64 0, .int .i64 0, .int .i64 0, .int .i64 1000, .int .i64 0, .int .i64 1, .int .i64 a.qos, .int .i64 b.qos, .int .i64 0, .int .i64 0, .int .i64 0, .int .i64 0, .int .i64 1000, .int .i64 1, .int .i64 a.shr, .int .i64 b.shr, .int .i64 0, .int .i64 256, .int .i64 0, .int .i64 0, .int .i64 0, .int .i64 1, .int .i64 a.nod, .int .i64 b.nod]⟩]) (k := [⟨g9, 45, #[.int .i64 0, .int .i64 0, .int .i64 1000, .int .i64 0, .int .i64 0, .int .i64 1, .int .i64 a.prt, .int .i64 b.prt]⟩]) HS12.out)⟩, by simp [intOf]⟩
          · skip
            have hz : (a.prt == b.prt) = false := by rw [beq_eq_false_iff_ne]; omega
            have hy : ¬ b.prt < a.prt := by omega
            have hx : decide (a.prt = b.prt) = false := decide_eq_false (by omega)
            clear ht
            obtain ⟨r3a, r3b, r3c⟩ := HS12.out.rules 3 rfl
            go_wp2_with fail
            go_wp2_with fail
            exact ⟨⟨1, by omega, rfl, (Bs.cut (l := [⟨g1, 23, fA a⟩, ⟨g2, 23, fA b⟩, ⟨g7, 45, #[.int .i64 0, .int .i64 0, .int .i64 1000, .int .i64 0, .int .i64 0, .int .i64 1, .int .i64 a.prt, .int .i64 b.prt, .int .i64 0, .int .i64 0, .int .i64 0, .int .i64 1000, .int .i64 0, .int .i64 1, .int .i64 a.qos, .int .i64 b.qos, .int .i64 0, .int .i64 0, .int .i64 0, .int .i64 0, .int .i64 1000, .int .i64 1, .int .i64 a.shr, .int .i64 b.shr, .int .i64 0, .int .i64 256, .int .i64 0, .int .i64 0, .int .i64 0, .int .i64 1, .int .i64 a.nod, .int .i64 b.nod]⟩]) (k := [⟨g9, 45, #[.int .i64 0, .int .i64 0, .int .i64 1000, .int .i64 0, .int .i64 0, .int .i64 1, .int .i64 a.prt, .int .i64 b.prt]⟩]) HS12.out)⟩, by simp [intOf]⟩
        | 1, _ =>
          go_wp2_with (first
            | (refine wpList_load_at rfl 45 _ rfl (HS8.out.at_ 2 rfl) 8 (.agg #[.int .i64 0, .int .i64 0, .int .i64 0, .int .i64 1000, .int .i64 0, .int .i64 1, .int .i64 a.qos, .int .i64 b.qos]) rfl _ Try.underlying45 rfl (by kernel_rfl) (Nat.le_of_ble_eq_true rfl) rfl ?_)
            | (refine wpList_alloc_b rfl (some 11) rfl 45 (#[.int .i64 0, .int .i64 0, .int .i64 0, .int .i64 0, .int .i64 0, .int .i64 0, .int .i64 0, .int .i64 0]) (by kernel_rfl) ?_; intro g9 W9 hb hB hg; have HS9 := Lib.hid (HS8.out.new hb hB hg); clear hb hB hg HS8)
            | (refine wpList_store_at rfl 45 _ _ rfl (HS9.out.at_ 3 rfl) (.agg #[.int .i64 0, .int .i64 0, .int .i64 0, .int .i64 1000, .int .i64 0, .int .i64 1, .int .i64 a.qos, .int .i64 b.qos]) rfl rfl (by kernel_rfl) (Nat.le_of_ble_eq_true rfl) (by kernel_rfl) ?_; intro W10 hB hP; have HS10 := Lib.hid (HS9.out.put 3 rfl (new := #[.int .i64 0, .int .i64 0, .int .i64 0, .int .i64 1000, .int .i64 0, .int .i64 1, .int .i64 a.qos, .int .i64 b.qos]) hB hP); clear hB hP HS9))
          refine region_b (Bs w _) (by kernel_rfl) (by kernel_rfl) HS10.out ?_
          clear HS10
          intro W11 hS
          have HS11 := Lib.hid hS
          clear hS
          repeat (first | (refine wpQuiet_load_b (by kernel_rfl) 23 _ rfl (HS11.out.at_ 0 rfl) 6 (fV a) rfl _ Try.underlying23 rfl (by kernel_rfl) (Nat.le_of_ble_eq_true rfl) rfl ?_) | (refine wpQuiet_load_b (by kernel_rfl) 23 _ rfl (HS11.out.at_ 1 rfl) 6 (fV b) rfl _ Try.underlying23 rfl (by kernel_rfl) (Nat.le_of_ble_eq_true rfl) rfl ?_) | (refine wpQuiet_load_b (by kernel_rfl) 31 _ rfl (HS11.out.at_ 3 rfl) 6 (.agg #[.int .i64 0, .int .i64 0, .int .i64 0, .int .i64 1000, .int .i64 0, .int .i64 1]) rfl _ Try.underlying31 rfl (by kernel_rfl) (Nat.le_of_ble_eq_true rfl) rfl ?_) | go_big_quiet_step (first | with_reducible exact Calls.regrown_of (facts_c a _) | with_reducible exact Calls.regrown_of (facts_c b _) | with_reducible exact Calls.regrown_of (HQ.out _)) | quiet_step (first | with_reducible exact Calls.regrown_of (facts_c a _) | with_reducible exact Calls.regrown_of (facts_c b _) | with_reducible exact Calls.regrown_of (HQ.out _)))
          refine wpQuiet_nil ?_
          intro W12 hb
          have HS12 := Lib.hid (HS11.out.after hb)
          clear hb HS11
          rcases Int.lt_trichotomy b.qos a.qos with ht | ht | ht
          · skip
            obtain ⟨r3a, r3b, r3c⟩ := HS12.out.rules 3 rfl
            go_wp2_with fail
            go_wp2_with fail
            exact ⟨⟨2, by omega, rfl, (Bs.cut (l := [⟨g1, 23, fA a⟩, ⟨g2, 23, fA b⟩, ⟨g7, 45, #[.int .i64 0, .int .i64 0, .int .i64 1000, .int .i64 0, .int .i64 0, .int .i64 1, .int .i64 a.prt, .int .i64 b.prt, .int .i64 0, .int .i64 0, .int .i64 0, .int .i64 1000, .int .i64 0, .int .i64 1, .int .i64 a.qos, .int .i64 b.qos, .int .i64 0, .int .i64 0, .int .i64 0, .int .i64 0, .int .i64 1000, .int .i64 1, .int .i64 a.shr, .int .i64 b.shr, .int .i64 0, .int .i64 256, .int .i64 0, .int .i64 0, .int .i64 0, .int .i64 1, .int .i64 a.nod, .int .i64 b.nod]⟩]) (k := [⟨g9, 45, #[.int .i64 0, .int .i64 0, .int .i64 0, .int .i64 1000, .int .i64 0, .int .i64 1, .int .i64 a.qos, .int .i64 b.qos]⟩]) HS12.out)⟩, by simp [intOf]⟩
          · skip
            have hz : (a.qos == b.qos) = true := by simp [ht]
            have hy : ¬ b.qos < a.qos := by omega
            have hx : decide (a.qos = b.qos) = true := decide_eq_true ht.symm
            clear ht
            obtain ⟨r3a, r3b, r3c⟩ := HS12.out.rules 3 rfl
            go_wp2_with fail
            go_wp2_with fail
            exact ⟨⟨2, by omega, rfl, (Bs.cut (l := [⟨g1, 23, fA a⟩, ⟨g2, 23, fA b⟩, ⟨g7, 45, #[.int .i64 0, .int .i64 0, .int .i64 1000, .int .i64 0, .int .i64 0, .int .i64 1, .int .i64 a.prt, .int .i64 b.prt, .int .i64 0, .int .i64 0, .int .i64 0, .int .i64 1000, .int .i64 0, .int .i64 1, .int .i64 a.qos, .int .i64 b.qos, .int .i64 0, .int .i64 0, .int .i64 0, .int .i64 0, .int .i64 1000, .int .i64 1, .int .i64 a.shr, .int .i64 b.shr, .int .i64 0, .int .i64 256, .int .i64 0, .int .i64 0, .int .i64 0, .int .i64 1, .int .i64 a.nod, .int .i64 b.nod]⟩]) (k := [⟨g9, 45, #[.int .i64 0, .int .i64 0, .int .i64 0, .int .i64 1000, .int .i64 0, .int .i64 1, .int .i64 a.qos, .int .i64 b.qos]⟩]) HS12.out)⟩, by simp [intOf]⟩
          · skip
            have hz : (a.qos == b.qos) = false := by rw [beq_eq_false_iff_ne]; omega
            have hy : ¬ b.qos < a.qos := by omega
            have hx : decide (a.qos = b.qos) = false := decide_eq_false (by omega)
            clear ht
            obtain ⟨r3a, r3b, r3c⟩ := HS12.out.rules 3 rfl
            go_wp2_with fail
            go_wp2_with fail
            exact ⟨⟨2, by omega, rfl, (Bs.cut (l := [⟨g1, 23, fA a⟩, ⟨g2, 23, fA b⟩, ⟨g7, 45, #[.int .i64 0, .int .i64 0, .int .i64 1000, .int .i64 0, .int .i64 0, .int .i64 1, .int .i64 a.prt, .int .i64 b.prt, .int .i64 0, .int .i64 0, .int .i64 0, .int .i64 1000, .int .i64 0, .int .i64 1, .int .i64 a.qos, .int .i64 b.qos, .int .i64 0, .int .i64 0, .int .i64 0, .int .i64 0, .int .i64 1000, .int .i64 1, .int .i64 a.shr, .int .i64 b.shr, .int .i64 0, .int .i64 256, .int .i64 0, .int .i64 0, .int .i64 0, .int .i64 1, .int .i64 a.nod, .int .i64 b.nod]⟩]) (k := [⟨g9, 45, #[.int .i64 0, .int .i64 0, .int .i64 0, .int .i64 1000, .int .i64 0, .int .i64 1, .int .i64 a.qos, .int .i64 b.qos]⟩]) HS12.out)⟩, by simp [intOf]⟩
        | 2, _ =>
          go_wp2_with (first
            | (refine wpList_load_at rfl 45 _ rfl (HS8.out.at_ 2 rfl) 8 (.agg #[.int .i64 0, .int .i64 0, .int .i64 0, .int .i64 0, .int .i64 1000, .int .i64 1, .int .i64 a.shr, .int .i64 b.shr]) rfl _ Try.underlying45 rfl (by kernel_rfl) (Nat.le_of_ble_eq_true rfl) rfl ?_)
            | (refine wpList_alloc_b rfl (some 11) rfl 45 (#[.int .i64 0, .int .i64 0, .int .i64 0, .int .i64 0, .int .i64 0, .int .i64 0, .int .i64 0, .int .i64 0]) (by kernel_rfl) ?_; intro g9 W9 hb hB hg; have HS9 := Lib.hid (HS8.out.new hb hB hg); clear hb hB hg HS8)
            | (refine wpList_store_at rfl 45 _ _ rfl (HS9.out.at_ 3 rfl) (.agg #[.int .i64 0, .int .i64 0, .int .i64 0, .int .i64 0, .int .i64 1000, .int .i64 1, .int .i64 a.shr, .int .i64 b.shr]) rfl rfl (by kernel_rfl) (Nat.le_of_ble_eq_true rfl) (by kernel_rfl) ?_; intro W10 hB hP; have HS10 := Lib.hid (HS9.out.put 3 rfl (new := #[.int .i64 0, .int .i64 0, .int .i64 0, .int .i64 0, .int .i64 1000, .int .i64 1, .int .i64 a.shr, .int .i64 b.shr]) hB hP); clear hB hP HS9))
          refine region_b (Bs w _) (by kernel_rfl) (by kernel_rfl) HS10.out ?_
          clear HS10
          intro W11 hS
          have HS11 := Lib.hid hS
          clear hS
          repeat (first | (refine wpQuiet_load_b (by kernel_rfl) 23 _ rfl (HS11.out.at_ 0 rfl) 6 (fV a) rfl _ Try.underlying23 rfl (by kernel_rfl) (Nat.le_of_ble_eq_true rfl) rfl ?_) | (refine wpQuiet_load_b (by kernel_rfl) 23 _ rfl (HS11.out.at_ 1 rfl) 6 (fV b) rfl _ Try.underlying23 rfl (by kernel_rfl) (Nat.le_of_ble_eq_true rfl) rfl ?_) | (refine wpQuiet_load_b (by kernel_rfl) 31 _ rfl (HS11.out.at_ 3 rfl) 6 (.agg #[.int .i64 0, .int .i64 0, .int .i64 0, .int .i64 0, .int .i64 1000, .int .i64 1]) rfl _ Try.underlying31 rfl (by kernel_rfl) (Nat.le_of_ble_eq_true rfl) rfl ?_) | go_big_quiet_step (first | with_reducible exact Calls.regrown_of (facts_c a _) | with_reducible exact Calls.regrown_of (facts_c b _) | with_reducible exact Calls.regrown_of (HR.out _)) | quiet_step (first | with_reducible exact Calls.regrown_of (facts_c a _) | with_reducible exact Calls.regrown_of (facts_c b _) | with_reducible exact Calls.regrown_of (HR.out _)))
          refine wpQuiet_nil ?_
          intro W12 hb
          have HS12 := Lib.hid (HS11.out.after hb)
          clear hb HS11
          rcases Int.lt_trichotomy b.shr a.shr with ht | ht | ht
          · skip
            obtain ⟨r3a, r3b, r3c⟩ := HS12.out.rules 3 rfl
            go_wp2_with fail
            go_wp2_with fail
            exact ⟨⟨3, by omega, rfl, (Bs.cut (l := [⟨g1, 23, fA a⟩, ⟨g2, 23, fA b⟩, ⟨g7, 45, #[.int .i64 0, .int .i64 0, .int .i64 1000, .int .i64 0, .int .i64 0, .int .i64 1, .int .i64 a.prt, .int .i64 b.prt, .int .i64 0, .int .i64 0, .int .i64 0, .int .i64 1000, .int .i64 0, .int .i64 1, .int .i64 a.qos, .int .i64 b.qos, .int .i64 0, .int .i64 0, .int .i64 0, .int .i64 0, .int .i64 1000, .int .i64 1, .int .i64 a.shr, .int .i64 b.shr, .int .i64 0, .int .i64 256, .int .i64 0, .int .i64 0, .int .i64 0, .int .i64 1, .int .i64 a.nod, .int .i64 b.nod]⟩]) (k := [⟨g9, 45, #[.int .i64 0, .int .i64 0, .int .i64 0, .int .i64 0, .int .i64 1000, .int .i64 1, .int .i64 a.shr, .int .i64 b.shr]⟩]) HS12.out)⟩, by simp [intOf]⟩
          · skip
            have hz : (a.shr == b.shr) = true := by simp [ht]
            have hy : ¬ b.shr < a.shr := by omega
            have hx : decide (a.shr = b.shr) = true := decide_eq_true ht.symm
            clear ht
            obtain ⟨r3a, r3b, r3c⟩ := HS12.out.rules 3 rfl
            go_wp2_with fail
            go_wp2_with fail
            exact ⟨⟨3, by omega, rfl, (Bs.cut (l := [⟨g1, 23, fA a⟩, ⟨g2, 23, fA b⟩, ⟨g7, 45, #[.int .i64 0, .int .i64 0, .int .i64 1000, .int .i64 0, .int .i64 0, .int .i64 1, .int .i64 a.prt, .int .i64 b.prt, .int .i64 0, .int .i64 0, .int .i64 0, .int .i64 1000, .int .i64 0, .int .i64 1, .int .i64 a.qos, .int .i64 b.qos, .int .i64 0, .int .i64 0, .int .i64 0, .int .i64 0, .int .i64 1000, .int .i64 1, .int .i64 a.shr, .int .i64 b.shr, .int .i64 0, .int .i64 256, .int .i64 0, .int .i64 0, .int .i64 0, .int .i64 1, .int .i64 a.nod, .int .i64 b.nod]⟩]) (k := [⟨g9, 45, #[.int .i64 0, .int .i64 0, .int .i64 0, .int .i64 0, .int .i64 1000, .int .i64 1, .int .i64 a.shr, .int .i64 b.shr]⟩]) HS12.out)⟩, by simp [intOf]⟩
          · skip
            have hz : (a.shr == b.shr) = false := by rw [beq_eq_false_iff_ne]; omega
            have hy : ¬ b.shr < a.shr := by omega
            have hx : decide (a.shr = b.shr) = false := decide_eq_false (by omega)
            clear ht
            obtain ⟨r3a, r3b, r3c⟩ := HS12.out.rules 3 rfl
            go_wp2_with fail
            go_wp2_with fail
            exact ⟨⟨3, by omega, rfl, (Bs.cut (l := [⟨g1, 23, fA a⟩, ⟨g2, 23, fA b⟩, ⟨g7, 45, #[.int .i64 0, .int .i64 0, .int .i64 1000, .int .i64 0, .int .i64 0, .int .i64 1, .int .i64 a.prt, .int .i64 b.prt, .int .i64 0, .int .i64 0, .int .i64 0, .int .i64 1000, .int .i64 0, .int .i64 1, .int .i64 a.qos, .int .i64 b.qos, .int .i64 0, .int .i64 0, .int .i64 0, .int .i64 0, .int .i64 1000, .int .i64 1, .int .i64 a.shr, .int .i64 b.shr, .int .i64 0, .int .i64 256, .int .i64 0, .int .i64 0, .int .i64 0, .int .i64 1, .int .i64 a.nod, .int .i64 b.nod]⟩]) (k := [⟨g9, 45, #[.int .i64 0, .int .i64 0, .int .i64 0, .int .i64 0, .int .i64 1000, .int .i64 1, .int .i64 a.shr, .int .i64 b.shr]⟩]) HS12.out)⟩, by simp [intOf]⟩
        | 3, _ =>
          go_wp2_with (first
            | (refine wpList_load_at rfl 45 _ rfl (HS8.out.at_ 2 rfl) 8 (.agg #[.int .i64 0, .int .i64 256, .int .i64 0, .int .i64 0, .int .i64 0, .int .i64 1, .int .i64 a.nod, .int .i64 b.nod]) rfl _ Try.underlying45 rfl (by kernel_rfl) (Nat.le_of_ble_eq_true rfl) rfl ?_)
            | (refine wpList_alloc_b rfl (some 11) rfl 45 (#[.int .i64 0, .int .i64 0, .int .i64 0, .int .i64 0, .int .i64 0, .int .i64 0, .int .i64 0, .int .i64 0]) (by kernel_rfl) ?_; intro g9 W9 hb hB hg; have HS9 := Lib.hid (HS8.out.new hb hB hg); clear hb hB hg HS8)
            | (refine wpList_store_at rfl 45 _ _ rfl (HS9.out.at_ 3 rfl) (.agg #[.int .i64 0, .int .i64 256, .int .i64 0, .int .i64 0, .int .i64 0, .int .i64 1, .int .i64 a.nod, .int .i64 b.nod]) rfl rfl (by kernel_rfl) (Nat.le_of_ble_eq_true rfl) (by kernel_rfl) ?_; intro W10 hB hP; have HS10 := Lib.hid (HS9.out.put 3 rfl (new := #[.int .i64 0, .int .i64 256, .int .i64 0, .int .i64 0, .int .i64 0, .int .i64 1, .int .i64 a.nod, .int .i64 b.nod]) hB hP); clear hB hP HS9))
          refine region_b (Bs w _) (by kernel_rfl) (by kernel_rfl) HS10.out ?_
          clear HS10
          intro W11 hS
          have HS11 := Lib.hid hS
          clear hS
          repeat (first | (refine wpQuiet_load_b (by kernel_rfl) 23 _ rfl (HS11.out.at_ 0 rfl) 6 (fV a) rfl _ Try.underlying23 rfl (by kernel_rfl) (Nat.le_of_ble_eq_true rfl) rfl ?_) | (refine wpQuiet_load_b (by kernel_rfl) 23 _ rfl (HS11.out.at_ 1 rfl) 6 (fV b) rfl _ Try.underlying23 rfl (by kernel_rfl) (Nat.le_of_ble_eq_true rfl) rfl ?_) | (refine wpQuiet_load_b (by kernel_rfl) 31 _ rfl (HS11.out.at_ 3 rfl) 6 (.agg #[.int .i64 0, .int .i64 256, .int .i64 0, .int .i64 0, .int .i64 0, .int .i64 1]) rfl _ Try.underlying31 rfl (by kernel_rfl) (Nat.le_of_ble_eq_true rfl) rfl ?_) | go_big_quiet_step (first | with_reducible exact Calls.regrown_of (facts_c a _) | with_reducible exact Calls.regrown_of (facts_c b _) | with_reducible exact Calls.regrown_of (HZ.out _)) | quiet_step (first | with_reducible exact Calls.regrown_of (facts_c a _) | with_reducible exact Calls.regrown_of (facts_c b _) | with_reducible exact Calls.regrown_of (HZ.out _)))
          refine wpQuiet_nil ?_
          intro W12 hb
          have HS12 := Lib.hid (HS11.out.after hb)
          clear hb HS11
          rcases Int.lt_trichotomy b.nod a.nod with ht | ht | ht
          · skip
            obtain ⟨r3a, r3b, r3c⟩ := HS12.out.rules 3 rfl
            go_wp2_with fail
            go_wp2_with fail
            exact ⟨⟨4, by omega, rfl, (Bs.cut (l := [⟨g1, 23, fA a⟩, ⟨g2, 23, fA b⟩, ⟨g7, 45, #[.int .i64 0, .int .i64 0, .int .i64 1000, .int .i64 0, .int .i64 0, .int .i64 1, .int .i64 a.prt, .int .i64 b.prt, .int .i64 0, .int .i64 0, .int .i64 0, .int .i64 1000, .int .i64 0, .int .i64 1, .int .i64 a.qos, .int .i64 b.qos, .int .i64 0, .int .i64 0, .int .i64 0, .int .i64 0, .int .i64 1000, .int .i64 1, .int .i64 a.shr, .int .i64 b.shr, .int .i64 0, .int .i64 256, .int .i64 0, .int .i64 0, .int .i64 0, .int .i64 1, .int .i64 a.nod, .int .i64 b.nod]⟩]) (k := [⟨g9, 45, #[.int .i64 0, .int .i64 256, .int .i64 0, .int .i64 0, .int .i64 0, .int .i64 1, .int .i64 a.nod, .int .i64 b.nod]⟩]) HS12.out)⟩, by simp [intOf]⟩
          · skip
            have hz : (a.nod == b.nod) = true := by simp [ht]
            have hy : ¬ b.nod < a.nod := by omega
            have hx : decide (a.nod = b.nod) = true := decide_eq_true ht.symm
            clear ht
            obtain ⟨r3a, r3b, r3c⟩ := HS12.out.rules 3 rfl
            go_wp2_with fail
            go_wp2_with fail
            exact ⟨⟨4, by omega, rfl, (Bs.cut (l := [⟨g1, 23, fA a⟩, ⟨g2, 23, fA b⟩, ⟨g7, 45, #[.int .i64 0, .int .i64 0, .int .i64 1000, .int .i64 0, .int .i64 0, .int .i64 1, .int .i64 a.prt, .int .i64 b.prt, .int .i64 0, .int .i64 0, .int .i64 0, .int .i64 1000, .int .i64 0, .int .i64 1, .int .i64 a.qos, .int .i64 b.qos, .int .i64 0, .int .i64 0, .int .i64 0, .int .i64 0, .int .i64 1000, .int .i64 1, .int .i64 a.shr, .int .i64 b.shr, .int .i64 0, .int .i64 256, .int .i64 0, .int .i64 0, .int .i64 0, .int .i64 1, .int .i64 a.nod, .int .i64 b.nod]⟩]) (k := [⟨g9, 45, #[.int .i64 0, .int .i64 256, .int .i64 0, .int .i64 0, .int .i64 0, .int .i64 1, .int .i64 a.nod, .int .i64 b.nod]⟩]) HS12.out)⟩, by simp [intOf]⟩
          · skip
            have hz : (a.nod == b.nod) = false := by rw [beq_eq_false_iff_ne]; omega
            have hy : ¬ b.nod < a.nod := by omega
            have hx : decide (a.nod = b.nod) = false := decide_eq_false (by omega)
            clear ht
            obtain ⟨r3a, r3b, r3c⟩ := HS12.out.rules 3 rfl
            go_wp2_with fail
            go_wp2_with fail
            exact ⟨⟨4, by omega, rfl, (Bs.cut (l := [⟨g1, 23, fA a⟩, ⟨g2, 23, fA b⟩, ⟨g7, 45, #[.int .i64 0, .int .i64 0, .int .i64 1000, .int .i64 0, .int .i64 0, .int .i64 1, .int .i64 a.prt, .int .i64 b.prt, .int .i64 0, .int .i64 0, .int .i64 0, .int .i64 1000, .int .i64 0, .int .i64 1, .int .i64 a.qos, .int .i64 b.qos, .int .i64 0, .int .i64 0, .int .i64 0, .int .i64 0, .int .i64 1000, .int .i64 1, .int .i64 a.shr, .int .i64 b.shr, .int .i64 0, .int .i64 256, .int .i64 0, .int .i64 0, .int .i64 0, .int .i64 1, .int .i64 a.nod, .int .i64 b.nod]⟩]) (k := [⟨g9, 45, #[.int .i64 0, .int .i64 256, .int .i64 0, .int .i64 0, .int .i64 0, .int .i64 1, .int .i64 a.nod, .int .i64 b.nod]⟩]) HS12.out)⟩, by simp [intOf]⟩
        | 4, _ =>
          go_wp2_with fail
          refine (alive_c _).mono ?_
          rintro e W9 ⟨rfl, hb⟩
          have HS9 := Lib.hid (HS8.out.after hb)
          clear hb HS8
          go_wp2
          go_ret
          exact ⟨rfl, HS9.out.below⟩
    · have hf : fstB a b = false := by unfold fstB; rw [decide_eq_false hsl, decide_eq_false (show ¬ a.id < b.id by omega)]; simp
      clear hs
      go_enter Try.func6, Try.ntmps6
      have HS0 := Lib.hid (Bs.nil w)
      go_wp2_with (first
        | (refine wpList_alloc_b rfl (some 3) rfl 23 (fA a) (by kernel_rfl) ?_; intro g1 W1 hb hB hg; have HS1 := Lib.hid (HS0.out.new hb hB hg); clear hb hB hg HS0)
        | (refine wpList_alloc_b rfl (some 4) rfl 23 (fA b) (by kernel_rfl) ?_; intro g2 W2 hb hB hg; have HS2 := Lib.hid (HS1.out.new hb hB hg); clear hb hB hg HS1)
        | (refine wpList_load_at rfl 23 _ rfl (HS2.out.at_ 0 rfl) 6 (fV a) rfl _ Try.underlying23 rfl (by kernel_rfl) (Nat.le_of_ble_eq_true rfl) rfl ?_))
      refine (rright_c a _).mono ?_
      rintro e W3 ⟨rfl, hb⟩
      have HS3 := Lib.hid (HS2.out.after hb)
      clear hb HS2
      go_wp2_with (refine wpList_load_g (by kernel_rfl) 23 _ rfl (HS3.out.at_ 1 rfl) 6 (fV b) rfl _ Try.underlying23 rfl (by kernel_rfl) (Nat.le_of_ble_eq_true rfl) rfl ?_)
      refine (rright_c b _).mono ?_
      rintro e W4 ⟨rfl, hb⟩
      have HS4 := Lib.hid (HS3.out.after hb)
      clear hb HS3
      obtain ⟨r0a, r0b, r0c⟩ := HS4.out.rules 0 rfl
      obtain ⟨r1a, r1b, r1c⟩ := HS4.out.rules 1 rfl
      go_wp2_with fail
      clear h1 h2
      go_wp2_with fail
      refine region_b (Bs w _) (by kernel_rfl) (by kernel_rfl) HS4.out ?_
      clear HS4 r0a r0b r0c r1a r1b r1c
      intro W5 hS
      have HS5 := Lib.hid hS
      clear hS
      repeat (first | (refine wpQuiet_load_b (by kernel_rfl) 23 _ rfl (HS5.out.at_ 0 rfl) 6 (fV a) rfl _ Try.underlying23 rfl (by kernel_rfl) (Nat.le_of_ble_eq_true rfl) rfl ?_) | (refine wpQuiet_load_b (by kernel_rfl) 23 _ rfl (HS5.out.at_ 1 rfl) 6 (fV b) rfl _ Try.underlying23 rfl (by kernel_rfl) (Nat.le_of_ble_eq_true rfl) rfl ?_) | go_big_quiet_step (first | with_reducible exact Calls.regrown_of (facts_c a _) | with_reducible exact Calls.regrown_of (facts_c b _) | with_reducible exact Calls.regrown_of (HN.out _)) | quiet_step (first | with_reducible exact Calls.regrown_of (facts_c a _) | with_reducible exact Calls.regrown_of (facts_c b _) | with_reducible exact Calls.regrown_of (HN.out _)))
      refine wpQuiet_nil ?_
      intro W6 hb
      have HS6 := Lib.hid (HS5.out.after hb)
      clear hb HS5
      obtain ⟨r0a, r0b, r0c⟩ := HS6.out.rules 0 rfl
      obtain ⟨r1a, r1b, r1c⟩ := HS6.out.rules 1 rfl
      go_wp2_with (refine wpList_build_b rfl (some 98) rfl 45 4 (#[.int .i64 0, .int .i64 0, .int .i64 1000, .int .i64 0, .int .i64 0, .int .i64 1, .int .i64 a.prt, .int .i64 b.prt, .int .i64 0, .int .i64 0, .int .i64 0, .int .i64 1000, .int .i64 0, .int .i64 1, .int .i64 a.qos, .int .i64 b.qos, .int .i64 0, .int .i64 0, .int .i64 0, .int .i64 0, .int .i64 1000, .int .i64 1, .int .i64 a.shr, .int .i64 b.shr, .int .i64 0, .int .i64 256, .int .i64 0, .int .i64 0, .int .i64 0, .int .i64 1, .int .i64 a.nod, .int .i64 b.nod]) (by kernel_rfl) ?_; intro g7 W7 hb hB hg; have HS7 := Lib.hid (HS6.out.new hb hB hg); clear hb hB hg HS6; clear r0a r0b r0c r1a r1b r1c)
      go_loopw [100] (fun i wr => ∃ k : Nat, k ≤ 4 ∧ i = .int .i64 k ∧ Bs w [⟨g1, 23, fA a⟩, ⟨g2, 23, fA b⟩, ⟨g7, 45, #[.int .i64 0, .int .i64 0, .int .i64 1000, .int .i64 0, .int .i64 0, .int .i64 1, .int .i64 a.prt, .int .i64 b.prt, .int .i64 0, .int .i64 0, .int .i64 0, .int .i64 1000, .int .i64 0, .int .i64 1, .int .i64 a.qos, .int .i64 b.qos, .int .i64 0, .int .i64 0, .int .i64 0, .int .i64 0, .int .i64 1000, .int .i64 1, .int .i64 a.shr, .int .i64 b.shr, .int .i64 0, .int .i64 256, .int .i64 0, .int .i64 0, .int .i64 0, .int .i64 1, .int .i64 a.nod, .int .i64 b.nod]⟩] wr) (fun i _ => 4 - (intOf i).toNat)
      case atStart => exact ⟨0, by omega, rfl, HS7.out⟩
      case round =>
        obtain ⟨k, hk, rfl, hS⟩ := hrel
        clear HS7 
        have HS8 := Lib.hid hS
        clear hS
        match k, hk with
        | 0, _ =>
          go_wp2_with (first
            | (refine wpList_load_at rfl 45 _ rfl (HS8.out.at_ 2 rfl) 8 (.agg #[.int .i64 0, .int .i64 0, .int .i64 1000, .int .i64 0, .int .i64 0, .int .i64 1, .int .i64 a.prt, .int .i64 b.prt]) rfl _ Try.underlying45 rfl (by kernel_rfl) (Nat.le_of_ble_eq_true rfl) rfl ?_)
            | (refine wpList_alloc_b rfl (some 11) rfl 45 (#[.int .i64 0, .int .i64 0, .int .i64 0, .int .i64 0, .int .i64 0, .int .i64 0, .int .i64 0, .int .i64 0]) (by kernel_rfl) ?_; intro g9 W9 hb hB hg; have HS9 := Lib.hid (HS8.out.new hb hB hg); clear hb hB hg HS8)
            | (refine wpList_store_at rfl 45 _ _ rfl (HS9.out.at_ 3 rfl) (.agg #[.int .i64 0, .int .i64 0, .int .i64 1000, .int .i64 0, .int .i64 0, .int .i64 1, .int .i64 a.prt, .int .i64 b.prt]) rfl rfl (by kernel_rfl) (Nat.le_of_ble_eq_true rfl) (by kernel_rfl) ?_; intro W10 hB hP; have HS10 := Lib.hid (HS9.out.put 3 rfl (new := #[.int .i64 0, .int .i64 0, .int .i64 1000, .int .i64 0, .int .i64 0, .int .i64 1, .int .i64 a.prt, .int .i64 b.prt]) hB hP); clear hB hP HS9))
          refine region_b (Bs w _) (by kernel_rfl) (by kernel_rfl) HS10.out ?_
          clear HS10
          intro W11 hS
          have HS11 := Lib.hid hS
          clear hS
          repeat (first | (refine wpQuiet_load_b (by kernel_rfl) 23 _ rfl (HS11.out.at_ 0 rfl) 6 (fV a) rfl _ Try.underlying23 rfl (by kernel_rfl) (Nat.le_of_ble_eq_true rfl) rfl ?_) | (refine wpQuiet_load_b (by kernel_rfl) 23 _ rfl (HS11.out.at_ 1 rfl) 6 (fV b) rfl _ Try.underlying23 rfl (by kernel_rfl) (Nat.le_of_ble_eq_true rfl) rfl ?_) | (refine wpQuiet_load_b (by kernel_rfl) 31 _ rfl (HS11.out.at_ 3 rfl) 6 (.agg #[.int .i64 0, .int .i64 0, .int .i64 1000, .int .i64 0, .int .i64 0, .int .i64 1]) rfl _ Try.underlying31 rfl (by kernel_rfl) (Nat.le_of_ble_eq_true rfl) rfl ?_) | go_big_quiet_step (first | with_reducible exact Calls.regrown_of (facts_c a _) | with_reducible exact Calls.regrown_of (facts_c b _) | with_reducible exact Calls.regrown_of (HP.out _)) | quiet_step (first | with_reducible exact Calls.regrown_of (facts_c a _) | with_reducible exact Calls.regrown_of (facts_c b _) | with_reducible exact Calls.regrown_of (HP.out _)))
          refine wpQuiet_nil ?_
          intro W12 hb
          have HS12 := Lib.hid (HS11.out.after hb)
          clear hb HS11
          rcases Int.lt_trichotomy b.prt a.prt with ht | ht | ht
          · skip
            obtain ⟨r3a, r3b, r3c⟩ := HS12.out.rules 3 rfl
            go_wp2_with fail
            go_wp2_with fail
            exact ⟨⟨1, by omega, rfl, (Bs.cut (l := [⟨g1, 23, fA a⟩, ⟨g2, 23, fA b⟩, ⟨g7, 45, #[.int .i64 0, .int .i64 0, .int .i64 1000, .int .i64 0, .int .i64 0, .int .i64 1, .int .i64 a.prt, .int .i64 b.prt, .int .i64 0, .int .i64 0, .int .i64 0, .int .i64 1000, .int .i64 0, .int .i64 1, .int .i64 a.qos, .int .i64 b.qos, .int .i64 0, .int .i64 0, .int .i64 0, .int .i64 0, .int .i64 1000, .int .i64 1, .int .i64 a.shr, .int .i64 b.shr, .int .i64 0, .int .i64 256, .int .i64 0, .int .i64 0, .int .i64 0, .int .i64 1, .int .i64 a.nod, .int .i64 b.nod]⟩]) (k := [⟨g9, 45, #[.int .i64 0, .int .i64 0, .int .i64 1000, .int .i64 0, .int .i64 0, .int .i64 1, .int .i64 a.prt, .int .i64 b.prt]⟩]) HS12.out)⟩, by simp [intOf]⟩
          · skip
            have hz : (a.prt == b.prt) = true := by simp [ht]
            have hy : ¬ b.prt < a.prt := by omega
            have hx : decide (a.prt = b.prt) = true := decide_eq_true ht.symm
            clear ht
            obtain ⟨r3a, r3b, r3c⟩ := HS12.out.rules 3 rfl
            go_wp2_with fail
            go_wp2_with fail
            exact ⟨⟨1, by omega, rfl, (Bs.cut (l := [⟨g1, 23, fA a⟩, ⟨g2, 23, fA b⟩, ⟨g7, 45, #[.int .i64 0, .int .i64 0, .int .i64 1000, .int .i64 0, .int .i64 0, .int .i64 1, .int .i64 a.prt, .int .i64 b.prt, .int .i64 0, .int .i64 0, .int .i64 0, .int .i64 1000, .int .i64 0, .int .i64 1, .int .i64 a.qos, .int .i64 b.qos, .int .i64 0, .int .i64 0, .int .i64 0, .int .i64 0, .int .i64 1000, .int .i64 1, .int .i64 a.shr, .int .i64 b.shr, .int .i64 0, .int .i64 256, .int .i64 0, .int .i64 0, .int .i64 0, .int .i64 1, .int .i64 a.nod, .int .i64 b.nod]⟩]) (k := [⟨g9, 45, #[.int .i64 0, .int .i64 0, .int .i64 1000, .int .i64 0, .int .i64 0, .int .i64 1, .int .i64 a.prt, .int .i64 b.prt]⟩]) HS12.out)⟩, by simp [intOf]⟩
          · skip
            have hz : (a.prt == b.prt) = false := by rw [beq_eq_false_iff_ne]; omega
            have hy : ¬ b.prt < a.prt := by omega
            have hx : decide (a.prt = b.prt) = false := decide_eq_false (by omega)
            clear ht
            obtain ⟨r3a, r3b, r3c⟩ := HS12.out.rules 3 rfl
            go_wp2_with fail
            go_wp2_with fail
            exact ⟨⟨1, by omega, rfl, (Bs.cut (l := [⟨g1, 23, fA a⟩, ⟨g2, 23, fA b⟩, ⟨g7, 45, #[.int .i64 0, .int .i64 0, .int .i64 1000, .int .i64 0, .int .i64 0, .int .i64 1, .int .i64 a.prt, .int .i64 b.prt, .int .i64 0, .int .i64 0, .int .i64 0, .int .i64 1000, .int .i64 0, .int .i64 1, .int .i64 a.qos, .int .i64 b.qos, .int .i64 0, .int .i64 0, .int .i64 0, .int .i64 0, .int .i64 1000, .int .i64 1, .int .i64 a.shr, .int .i64 b.shr, .int .i64 0, .int .i64 256, .int .i64 0, .int .i64 0, .int .i64 0, .int .i64 1, .int .i64 a.nod, .int .i64 b.nod]⟩]) (k := [⟨g9, 45, #[.int .i64 0, .int .i64 0, .int .i64 1000, .int .i64 0, .int .i64 0, .int .i64 1, .int .i64 a.prt, .int .i64 b.prt]⟩]) HS12.out)⟩, by simp [intOf]⟩
        | 1, _ =>
          go_wp2_with (first
            | (refine wpList_load_at rfl 45 _ rfl (HS8.out.at_ 2 rfl) 8 (.agg #[.int .i64 0, .int .i64 0, .int .i64 0, .int .i64 1000, .int .i64 0, .int .i64 1, .int .i64 a.qos, .int .i64 b.qos]) rfl _ Try.underlying45 rfl (by kernel_rfl) (Nat.le_of_ble_eq_true rfl) rfl ?_)
            | (refine wpList_alloc_b rfl (some 11) rfl 45 (#[.int .i64 0, .int .i64 0, .int .i64 0, .int .i64 0, .int .i64 0, .int .i64 0, .int .i64 0, .int .i64 0]) (by kernel_rfl) ?_; intro g9 W9 hb hB hg; have HS9 := Lib.hid (HS8.out.new hb hB hg); clear hb hB hg HS8)
            | (refine wpList_store_at rfl 45 _ _ rfl (HS9.out.at_ 3 rfl) (.agg #[.int .i64 0, .int .i64 0, .int .i64 0, .int .i64 1000, .int .i64 0, .int .i64 1, .int .i64 a.qos, .int .i64 b.qos]) rfl rfl (by kernel_rfl) (Nat.le_of_ble_eq_true rfl) (by kernel_rfl) ?_; intro W10 hB hP; have HS10 := Lib.hid (HS9.out.put 3 rfl (new := #[.int .i64 0, .int .i64 0, .int .i64 0, .int .i64 1000, .int .i64 0, .int .i64 1, .int .i64 a.qos, .int .i64 b.qos]) hB hP); clear hB hP HS9))
          refine region_b (Bs w _) (by kernel_rfl) (by kernel_rfl) HS10.out ?_
          clear HS10
          intro W11 hS
          have HS11 := Lib.hid hS
          clear hS
          repeat (first | (refine wpQuiet_load_b (by kernel_rfl) 23 _ rfl (HS11.out.at_ 0 rfl) 6 (fV a) rfl _ Try.underlying23 rfl (by kernel_rfl) (Nat.le_of_ble_eq_true rfl) rfl ?_) | (refine wpQuiet_load_b (by kernel_rfl) 23 _ rfl (HS11.out.at_ 1 rfl) 6 (fV b) rfl _ Try.underlying23 rfl (by kernel_rfl) (Nat.le_of_ble_eq_true rfl) rfl ?_) | (refine wpQuiet_load_b (by kernel_rfl) 31 _ rfl (HS11.out.at_ 3 rfl) 6 (.agg #[.int .i64 0, .int .i64 0, .int .i64 0, .int .i64 1000, .int .i64 0, .int .i64 1]) rfl _ Try.underlying31 rfl (by kernel_rfl) (Nat.le_of_ble_eq_true rfl) rfl ?_) | go_big_quiet_step (first | with_reducible exact Calls.regrown_of (facts_c a _) | with_reducible exact Calls.regrown_of (facts_c b _) | with_reducible exact Calls.regrown_of (HQ.out _)) | quiet_step (first | with_reducible exact Calls.regrown_of (facts_c a _) | with_reducible exact Calls.regrown_of (facts_c b _) | with_reducible exact Calls.regrown_of (HQ.out _)))
          refine wpQuiet_nil ?_
          intro W12 hb
          have HS12 := Lib.hid (HS11.out.after hb)
          clear hb HS11
          rcases Int.lt_trichotomy b.qos a.qos with ht | ht | ht
          · skip
            obtain ⟨r3a, r3b, r3c⟩ := HS12.out.rules 3 rfl
            go_wp2_with fail
            go_wp2_with fail
            exact ⟨⟨2, by omega, rfl, (Bs.cut (l := [⟨g1, 23, fA a⟩, ⟨g2, 23, fA b⟩, ⟨g7, 45, #[.int .i64 0, .int .i64 0, .int .i64 1000, .int .i64 0, .int .i64 0, .int .i64 1, .int .i64 a.prt, .int .i64 b.prt, .int .i64 0, .int .i64 0, .int .i64 0, .int .i64 1000, .int .i64 0, .int .i64 1, .int .i64 a.qos, .int .i64 b.qos, .int .i64 0, .int .i64 0, .int .i64 0, .int .i64 0, .int .i64 1000, .int .i64 1, .int .i64 a.shr, .int .i64 b.shr, .int .i64 0, .int .i64 256, .int .i64 0, .int .i64 0, .int .i64 0, .int .i64 1, .int .i64 a.nod, .int .i64 b.nod]⟩]) (k := [⟨g9, 45, #[.int .i64 0, .int .i64 0, .int .i64 0, .int .i64 1000, .int .i64 0, .int .i64 1, .int .i64 a.qos, .int .i64 b.qos]⟩]) HS12.out)⟩, by simp [intOf]⟩
          · skip
            have hz : (a.qos == b.qos) = true := by simp [ht]
            have hy : ¬ b.qos < a.qos := by omega
            have hx : decide (a.qos = b.qos) = true := decide_eq_true ht.symm
            clear ht
            obtain ⟨r3a, r3b, r3c⟩ := HS12.out.rules 3 rfl
            go_wp2_with fail
            go_wp2_with fail
            exact ⟨⟨2, by omega, rfl, (Bs.cut (l := [⟨g1, 23, fA a⟩, ⟨g2, 23, fA b⟩, ⟨g7, 45, #[.int .i64 0, .int .i64 0, .int .i64 1000, .int .i64 0, .int .i64 0, .int .i64 1, .int .i64 a.prt, .int .i64 b.prt, .int .i64 0, .int .i64 0, .int .i64 0, .int .i64 1000, .int .i64 0, .int .i64 1, .int .i64 a.qos, .int .i64 b.qos, .int .i64 0, .int .i64 0, .int .i64 0, .int .i64 0, .int .i64 1000, .int .i64 1, .int .i64 a.shr, .int .i64 b.shr, .int .i64 0, .int .i64 256, .int .i64 0, .int .i64 0, .int .i64 0, .int .i64 1, .int .i64 a.nod, .int .i64 b.nod]⟩]) (k := [⟨g9, 45, #[.int .i64 0, .int .i64 0, .int .i64 0, .int .i64 1000, .int .i64 0, .int .i64 1, .int .i64 a.qos, .int .i64 b.qos]⟩]) HS12.out)⟩, by simp [intOf]⟩
          · skip
            have hz : (a.qos == b.qos) = false := by rw [beq_eq_false_iff_ne]; omega
            have hy : ¬ b.qos < a.qos := by omega
            have hx : decide (a.qos = b.qos) = false := decide_eq_false (by omega)
            clear ht
            obtain ⟨r3a, r3b, r3c⟩ := HS12.out.rules 3 rfl
            go_wp2_with fail
            go_wp2_with fail
            exact ⟨⟨2, by omega, rfl, (Bs.cut (l := [⟨g1, 23, fA a⟩, ⟨g2, 23, fA b⟩, ⟨g7, 45, #[.int .i64 0, .int .i64 0, .int .i64 1000, .int .i64 0, .int .i64 0, .int .i64 1, .int .i64 a.prt, .int .i64 b.prt, .int .i64 0, .int .i64 0, .int .i64 0, .int .i64 1000, .int .i64 0, .int .i64 1, .int .i64 a.qos, .int .i64 b.qos, .int .i64 0, .int .i64 0, .int .i64 0, .int .i64 0, .int .i64 1000, .int .i64 1, .int .i64 a.shr, .int .i64 b.shr, .int .i64 0, .int .i64 256, .int .i64 0, .int .i64 0, .int .i64 0, .int .i64 1, .int .i64 a.nod, .int .i64 b.nod]⟩]) (k := [⟨g9, 45, #[.int .i64 0, .int .i64 0, .int .i64 0, .int .i64 1000, .int .i64 0, .int .i64 1, .int .i64 a.qos, .int .i64 b.qos]⟩]) HS12.out)⟩, by simp [intOf]⟩
        | 2, _ =>
          go_wp2_with (first
            | (refine wpList_load_at rfl 45 _ rfl (HS8.out.at_ 2 rfl) 8 (.agg #[.int .i64 0, .int .i64 0, .int .i64 0, .int .i64 0, .int .i64 1000, .int .i64 1, .int .i64 a.shr, .int .i64 b.shr]) rfl _ Try.underlying45 rfl (by kernel_rfl) (Nat.le_of_ble_eq_true rfl) rfl ?_)
            | (refine wpList_alloc_b rfl (some 11) rfl 45 (#[.int .i64 0, .int .i64 0, .int .i64 0, .int .i64 0, .int .i64 0, .int .i64 0, .int .i64 0, .int .i64 0]) (by kernel_rfl) ?_; intro g9 W9 hb hB hg; have HS9 := Lib.hid (HS8.out.new hb hB hg); clear hb hB hg HS8)
            | (refine wpList_store_at rfl 45 _ _ rfl (HS9.out.at_ 3 rfl) (.agg #[.int .i64 0, .int .i64 0, .int .i64 0, .int .i64 0, .int .i64 1000, .int .i64 1, .int .i64 a.shr, .int .i64 b.shr]) rfl rfl (by kernel_rfl) (Nat.le_of_ble_eq_true rfl) (by kernel_rfl) ?_; intro W10 hB hP; have HS10 := Lib.hid (HS9.out.put 3 rfl (new := #[.int .i64 0, .int .i64 0, .int .i64 0, .int .i64 0, .int .i64 1000, .int .i64 1, .int .i64 a.shr, .int .i64 b.shr]) hB hP); clear hB hP HS9))
          refine region_b (Bs w _) (by kernel_rfl) (by kernel_rfl) HS10.out ?_
          clear HS10
          intro W11 hS
          have HS11 := Lib.hid hS
          clear hS
          repeat (first | (refine wpQuiet_load_b (by kernel_rfl) 23 _ rfl (HS11.out.at_ 0 rfl) 6 (fV a) rfl _ Try.underlying23 rfl (by kernel_rfl) (Nat.le_of_ble_eq_true rfl) rfl ?_) | (refine wpQuiet_load_b (by kernel_rfl) 23 _ rfl (HS11.out.at_ 1 rfl) 6 (fV b) rfl _ Try.underlying23 rfl (by kernel_rfl) (Nat.le_of_ble_eq_true rfl) rfl ?_) | (refine wpQuiet_load_b (by kernel_rfl) 31 _ rfl (HS11.out.at_ 3 rfl) 6 (.agg #[.int .i64 0, .int .i64 0, .int .i64 0, .int .i64 0, .int .i64 1000, .int .i64 1]) rfl _ Try.underlying31 rfl (by kernel_rfl) (Nat.le_of_ble_eq_true rfl) rfl ?_) | go_big_quiet_step (first | with_reducible exact Calls.regrown_of (facts_c a _) | with_reducible exact Calls.regrown_of (facts_c b _) | with_reducible exact Calls.regrown_of (HR.out _)) | quiet_step (first | with_reducible exact Calls.regrown_of (facts_c a _) | with_reducible exact Calls.regrown_of (facts_c b _) | with_reducible exact Calls.regrown_of (HR.out _)))
          refine wpQuiet_nil ?_
          intro W12 hb
          have HS12 := Lib.hid (HS11.out.after hb)
          clear hb HS11
          rcases Int.lt_trichotomy b.shr a.shr with ht | ht | ht
          · skip
            obtain ⟨r3a, r3b, r3c⟩ := HS12.out.rules 3 rfl
            go_wp2_with fail
            go_wp2_with fail
            exact ⟨⟨3, by omega, rfl, (Bs.cut (l := [⟨g1, 23, fA a⟩, ⟨g2, 23, fA b⟩, ⟨g7, 45, #[.int .i64 0, .int .i64 0, .int .i64 1000, .int .i64 0, .int .i64 0, .int .i64 1, .int .i64 a.prt, .int .i64 b.prt, .int .i64 0, .int .i64 0, .int .i64 0, .int .i64 1000, .int .i64 0, .int .i64 1, .int .i64 a.qos, .int .i64 b.qos, .int .i64 0, .int .i64 0, .int .i64 0, .int .i64 0, .int .i64 1000, .int .i64 1, .int .i64 a.shr, .int .i64 b.shr, .int .i64 0, .int .i64 256, .int .i64 0, .int .i64 0, .int .i64 0, .int .i64 1, .int .i64 a.nod, .int .i64 b.nod]⟩]) (k := [⟨g9, 45, #[.int .i64 0, .int .i64 0, .int .i64 0, .int .i64 0, .int .i64 1000, .int .i64 1, .int .i64 a.shr, .int .i64 b.shr]⟩]) HS12.out)⟩, by simp [intOf]⟩
          · skip
            have hz : (a.shr == b.shr) = true := by simp [ht]
            have hy : ¬ b.shr < a.shr := by omega
            have hx : decide (a.shr = b.shr) = true := decide_eq_true ht.symm
            clear ht
            obtain ⟨r3a, r3b, r3c⟩ := HS12.out.rules 3 rfl
            go_wp2_with fail
            go_wp2_with fail
            exact ⟨⟨3, by omega, rfl, (Bs.cut (l := [⟨g1, 23, fA a⟩, ⟨g2, 23, fA b⟩, ⟨g7, 45, #[.int .i64 0, .int .i64 0, .int .i64 1000, .int .i64 0, .int .i64 0, .int .i64 1, .int .i64 a.prt, .int .i64 b.prt, .int .i64 0, .int .i64 0, .int .i64 0, .int .i64 1000, .int .i64 0, .int .i64 1, .int .i64 a.qos, .int .i64 b.qos, .int .i64 0, .int .i64 0, .int .i64 0, .int .i64 0, .int .i64 1000, .int .i64 1, .int .i64 a.shr, .int .i64 b.shr, .int .i64 0, .int .i64 256, .int .i64 0, .int .i64 0, .int .i64 0, .int .i64 1, .int .i64 a.nod, .int .i64 b.nod]⟩]) (k := [⟨g9, 45, #[.int .i64 0, .int .i64 0, .int .i64 0, .int .i64 0, .int .i64 1000, .int .i64 1, .int .i64 a.shr, .int .i64 b.shr]⟩]) HS12.out)⟩, by simp [intOf]⟩
          · skip
            have hz : (a.shr == b.shr) = false := by rw [beq_eq_false_iff_ne]; omega
            have hy : ¬ b.shr < a.shr := by omega
            have hx : decide (a.shr = b.shr) = false := decide_eq_false (by omega)
            clear ht
            obtain ⟨r3a, r3b, r3c⟩ := HS12.out.rules 3 rfl
            go_wp2_with fail
            go_wp2_with fail
            exact ⟨⟨3, by omega, rfl, (Bs.cut (l := [⟨g1, 23, fA a⟩, ⟨g2, 23, fA b⟩, ⟨g7, 45, #[.int .i64 0, .int .i64 0, .int .i64 1000, .int .i64 0, .int .i64 0, .int .i64 1, .int .i64 a.prt, .int .i64 b.prt, .int .i64 0, .int .i64 0, .int .i64 0, .int .i64 1000, .int .i64 0, .int .i64 1, .int .i64 a.qos, .int .i64 b.qos, .int .i64 0, .int .i64 0, .int .i64 0, .int .i64 0, .int .i64 1000, .int .i64 1, .int .i64 a.shr, .int .i64 b.shr, .int .i64 0, .int .i64 256, .int .i64 0, .int .i64 0, .int .i64 0, .int .i64 1, .int .i64 a.nod, .int .i64 b.nod]⟩]) (k := [⟨g9, 45, #[.int .i64 0, .int .i64 0, .int .i64 0, .int .i64 0, .int .i64 1000, .int .i64 1, .int .i64 a.shr, .int .i64 b.shr]⟩]) HS12.out)⟩, by simp [intOf]⟩
        | 3, _ =>
          go_wp2_with (first
            | (refine wpList_load_at rfl 45 _ rfl (HS8.out.at_ 2 rfl) 8 (.agg #[.int .i64 0, .int .i64 256, .int .i64 0, .int .i64 0, .int .i64 0, .int .i64 1, .int .i64 a.nod, .int .i64 b.nod]) rfl _ Try.underlying45 rfl (by kernel_rfl) (Nat.le_of_ble_eq_true rfl) rfl ?_)
            | (refine wpList_alloc_b rfl (some 11) rfl 45 (#[.int .i64 0, .int .i64 0, .int .i64 0, .int .i64 0, .int .i64 0, .int .i64 0, .int .i64 0, .int .i64 0]) (by kernel_rfl) ?_; intro g9 W9 hb hB hg; have HS9 := Lib.hid (HS8.out.new hb hB hg); clear hb hB hg HS8)
            | (refine wpList_store_at rfl 45 _ _ rfl (HS9.out.at_ 3 rfl) (.agg #[.int .i64 0, .int .i64 256, .int .i64 0, .int .i64 0, .int .i64 0, .int .i64 1, .int .i64 a.nod, .int .i64 b.nod]) rfl rfl (by kernel_rfl) (Nat.le_of_ble_eq_true rfl) (by kernel_rfl) ?_; intro W10 hB hP; have HS10 := Lib.hid (HS9.out.put 3 rfl (new := #[.int .i64 0, .int .i64 256, .int .i64 0, .int .i64 0, .int .i64 0, .int .i64 1, .int .i64 a.nod, .int .i64 b.nod]) hB hP); clear hB hP HS9))
          refine region_b (Bs w _) (by kernel_rfl) (by kernel_rfl) HS10.out ?_
          clear HS10
          intro W11 hS
          have HS11 := Lib.hid hS
          clear hS
          repeat (first | (refine wpQuiet_load_b (by kernel_rfl) 23 _ rfl (HS11.out.at_ 0 rfl) 6 (fV a) rfl _ Try.underlying23 rfl (by kernel_rfl) (Nat.le_of_ble_eq_true rfl) rfl ?_) | (refine wpQuiet_load_b (by kernel_rfl) 23 _ rfl (HS11.out.at_ 1 rfl) 6 (fV b) rfl _ Try.underlying23 rfl (by kernel_rfl) (Nat.le_of_ble_eq_true rfl) rfl ?_) | (refine wpQuiet_load_b (by kernel_rfl) 31 _ rfl (HS11.out.at_ 3 rfl) 6 (.agg #[.int .i64 0, .int .i64 256, .int .i64 0, .int .i64 0, .int .i64 0, .int .i64 1]) rfl _ Try.underlying31 rfl (by kernel_rfl) (Nat.le_of_ble_eq_true rfl) rfl ?_) | go_big_quiet_step (first | with_reducible exact Calls.regrown_of (facts_c a _) | with_reducible exact Calls.regrown_of (facts_c b _) | with_reducible exact Calls.regrown_of (HZ.out _)) | quiet_step (first | with_reducible exact Calls.regrown_of (facts_c a _) | with_reducible exact Calls.regrown_of (facts_c b _) | with_reducible exact Calls.regrown_of (HZ.out _)))
          refine wpQuiet_nil ?_
          intro W12 hb
          have HS12 := Lib.hid (HS11.out.after hb)
          clear hb HS11
          rcases Int.lt_trichotomy b.nod a.nod with ht | ht | ht
          · skip
            obtain ⟨r3a, r3b, r3c⟩ := HS12.out.rules 3 rfl
            go_wp2_with fail
            go_wp2_with fail
            exact ⟨⟨4, by omega, rfl, (Bs.cut (l := [⟨g1, 23, fA a⟩, ⟨g2, 23, fA b⟩, ⟨g7, 45, #[.int .i64 0, .int .i64 0, .int .i64 1000, .int .i64 0, .int .i64 0, .int .i64 1, .int .i64 a.prt, .int .i64 b.prt, .int .i64 0, .int .i64 0, .int .i64 0, .int .i64 1000, .int .i64 0, .int .i64 1, .int .i64 a.qos, .int .i64 b.qos, .int .i64 0, .int .i64 0, .int .i64 0, .int .i64 0, .int .i64 1000, .int .i64 1, .int .i64 a.shr, .int .i64 b.shr, .int .i64 0, .int .i64 256, .int .i64 0, .int .i64 0, .int .i64 0, .int .i64 1, .int .i64 a.nod, .int .i64 b.nod]⟩]) (k := [⟨g9, 45, #[.int .i64 0, .int .i64 256, .int .i64 0, .int .i64 0, .int .i64 0, .int .i64 1, .int .i64 a.nod, .int .i64 b.nod]⟩]) HS12.out)⟩, by simp [intOf]⟩
          · skip
            have hz : (a.nod == b.nod) = true := by simp [ht]
            have hy : ¬ b.nod < a.nod := by omega
            have hx : decide (a.nod = b.nod) = true := decide_eq_true ht.symm
            clear ht
            obtain ⟨r3a, r3b, r3c⟩ := HS12.out.rules 3 rfl
            go_wp2_with fail
            go_wp2_with fail
            exact ⟨⟨4, by omega, rfl, (Bs.cut (l := [⟨g1, 23, fA a⟩, ⟨g2, 23, fA b⟩, ⟨g7, 45, #[.int .i64 0, .int .i64 0, .int .i64 1000, .int .i64 0, .int .i64 0, .int .i64 1, .int .i64 a.prt, .int .i64 b.prt, .int .i64 0, .int .i64 0, .int .i64 0, .int .i64 1000, .int .i64 0, .int .i64 1, .int .i64 a.qos, .int .i64 b.qos, .int .i64 0, .int .i64 0, .int .i64 0, .int .i64 0, .int .i64 1000, .int .i64 1, .int .i64 a.shr, .int .i64 b.shr, .int .i64 0, .int .i64 256, .int .i64 0, .int .i64 0, .int .i64 0, .int .i64 1, .int .i64 a.nod, .int .i64 b.nod]⟩]) (k := [⟨g9, 45, #[.int .i64 0, .int .i64 256, .int .i64 0, .int .i64 0, .int .i64 0, .int .i64 1, .int .i64 a.nod, .int .i64 b.nod]⟩]) HS12.out)⟩, by simp [intOf]⟩
          · skip
            have hz : (a.nod == b.nod) = false := by rw [beq_eq_false_iff_ne]; omega
            have hy : ¬ b.nod < a.nod := by omega
            have hx : decide (a.nod = b.nod) = false := decide_eq_false (by omega)
            clear ht
            obtain ⟨r3a, r3b, r3c⟩ := HS12.out.rules 3 rfl
            go_wp2_with fail
            go_wp2_with fail
            exact ⟨⟨4, by omega, rfl, (Bs.cut (l := [⟨g1, 23, fA a⟩, ⟨g2, 23, fA b⟩, ⟨g7, 45, #[.int .i64 0, .int .i64 0, .int .i64 1000, .int .i64 0, .int .i64 0, .int .i64 1, .int .i64 a.prt, .int .i64 b.prt, .int .i64 0, .int .i64 0, .int .i64 0, .int .i64 1000, .int .i64 0, .int .i64 1, .int .i64 a.qos, .int .i64 b.qos, .int .i64 0, .int .i64 0, .int .i64 0, .int .i64 0, .int .i64 1000, .int .i64 1, .int .i64 a.shr, .int .i64 b.shr, .int .i64 0, .int .i64 256, .int .i64 0, .int .i64 0, .int .i64 0, .int .i64 1, .int .i64 a.nod, .int .i64 b.nod]⟩]) (k := [⟨g9, 45, #[.int .i64 0, .int .i64 256, .int .i64 0, .int .i64 0, .int .i64 0, .int .i64 1, .int .i64 a.nod, .int .i64 b.nod]⟩]) HS12.out)⟩, by simp [intOf]⟩
        | 4, _ =>
          go_wp2_with fail
          refine (alive_c _).mono ?_
          rintro e W9 ⟨rfl, hb⟩
          have HS9 := Lib.hid (HS8.out.after hb)
          clear hb HS8
          go_wp2
          go_ret
          exact ⟨rfl, HS9.out.below⟩
  · have hsb : (a.sub == b.sub) = false := by rw [beq_eq_false_iff_ne]; omega
    have hsl : ¬ a.sub < b.sub := by omega
    have hf : fstB a b = false := by unfold fstB; rw [decide_eq_false hsl, decide_eq_false (show ¬ a.sub = b.sub by omega)]; rfl
    clear hs
    go_enter Try.func6, Try.ntmps6
    have HS0 := Lib.hid (Bs.nil w)
    go_wp2_with (first
      | (refine wpList_alloc_b rfl (some 3) rfl 23 (fA a) (by kernel_rfl) ?_; intro g1 W1 hb hB hg; have HS1 := Lib.hid (HS0.out.new hb hB hg); clear hb hB hg HS0)
      | (refine wpList_alloc_b rfl (some 4) rfl 23 (fA b) (by kernel_rfl) ?_; intro g2 W2 hb hB hg; have HS2 := Lib.hid (HS1.out.new hb hB hg); clear hb hB hg HS1)
      | (refine wpList_load_at rfl 23 _ rfl (HS2.out.at_ 0 rfl) 6 (fV a) rfl _ Try.underlying23 rfl (by kernel_rfl) (Nat.le_of_ble_eq_true rfl) rfl ?_))
    refine (rright_c a _).mono ?_
    rintro e W3 ⟨rfl, hb⟩
    have HS3 := Lib.hid (HS2.out.after hb)
    clear hb HS2
    go_wp2_with (refine wpList_load_g (by kernel_rfl) 23 _ rfl (HS3.out.at_ 1 rfl) 6 (fV b) rfl _ Try.underlying23 rfl (by kernel_rfl) (Nat.le_of_ble_eq_true rfl) rfl ?_)
    refine (rright_c b _).mono ?_
    rintro e W4 ⟨rfl, hb⟩
    have HS4 := Lib.hid (HS3.out.after hb)
    clear hb HS3
    obtain ⟨r0a, r0b, r0c⟩ := HS4.out.rules 0 rfl
    obtain ⟨r1a, r1b, r1c⟩ := HS4.out.rules 1 rfl
    go_wp2_with fail
    clear h1 h2
    go_wp2_with fail
    refine region_b (Bs w _) (by kernel_rfl) (by kernel_rfl) HS4.out ?_
    clear HS4 r0a r0b r0c r1a r1b r1c
    intro W5 hS
    have HS5 := Lib.hid hS
    clear hS
    repeat (first | (refine wpQuiet_load_b (by kernel_rfl) 23 _ rfl (HS5.out.at_ 0 rfl) 6 (fV a) rfl _ Try.underlying23 rfl (by kernel_rfl) (Nat.le_of_ble_eq_true rfl) rfl ?_) | (refine wpQuiet_load_b (by kernel_rfl) 23 _ rfl (HS5.out.at_ 1 rfl) 6 (fV b) rfl _ Try.underlying23 rfl (by kernel_rfl) (Nat.le_of_ble_eq_true rfl) rfl ?_) | go_big_quiet_step (first | with_reducible exact Calls.regrown_of (facts_c a _) | with_reducible exact Calls.regrown_of (facts_c b _) | with_reducible exact Calls.regrown_of (HN.out _)) | quiet_step (first | with_reducible exact Calls.regrown_of (facts_c a _) | with_reducible exact Calls.regrown_of (facts_c b _) | with_reducible exact Calls.regrown_of (HN.out _)))
    refine wpQuiet_nil ?_
    intro W6 hb
    have HS6 := Lib.hid (HS5.out.after hb)
    clear hb HS5
    obtain ⟨r0a, r0b, r0c⟩ := HS6.out.rules 0 rfl
    obtain ⟨r1a, r1b, r1c⟩ := HS6.out.rules 1 rfl
    go_wp2_with (refine wpList_build_b rfl (some 98) rfl 45 4 (#[.int .i64 0, .int .i64 0, .int .i64 1000, .int .i64 0, .int .i64 0, .int .i64 1, .int .i64 a.prt, .int .i64 b.prt, .int .i64 0, .int .i64 0, .int .i64 0, .int .i64 1000, .int .i64 0, .int .i64 1, .int .i64 a.qos, .int .i64 b.qos, .int .i64 0, .int .i64 0, .int .i64 0, .int .i64 0, .int .i64 1000, .int .i64 1, .int .i64 a.shr, .int .i64 b.shr, .int .i64 0, .int .i64 256, .int .i64 0, .int .i64 0, .int .i64 0, .int .i64 1, .int .i64 a.nod, .int .i64 b.nod]) (by kernel_rfl) ?_; intro g7 W7 hb hB hg; have HS7 := Lib.hid (HS6.out.new hb hB hg); clear hb hB hg HS6; clear r0a r0b r0c r1a r1b r1c)
    go_loopw [100] (fun i wr => ∃ k : Nat, k ≤ 4 ∧ i = .int .i64 k ∧ Bs w [⟨g1, 23, fA a⟩, ⟨g2, 23, fA b⟩, ⟨g7, 45, #[.int .i64 0, .int .i64 0, .int .i64 1000, .int .i64 0, .int .i64 0, .int .i64 1, .int .i64 a.prt, .int .i64 b.prt, .int .i64 0, .int .i64 0, .int .i64 0, .int .i64 1000, .int .i64 0, .int .i64 1, .int .i64 a.qos, .int .i64 b.qos, .int .i64 0, .int .i64 0, .int .i64 0, .int .i64 0, .int .i64 1000, .int .i64 1, .int .i64 a.shr, .int .i64 b.shr, .int .i64 0, .int .i64 256, .int .i64 0, .int .i64 0, .int .i64 0, .int .i64 1, .int .i64 a.nod, .int .i64 b.nod]⟩] wr) (fun i _ => 4 - (intOf i).toNat)
    case atStart => exact ⟨0, by omega, rfl, HS7.out⟩
    case round =>
      obtain ⟨k, hk, rfl, hS⟩ := hrel
      clear HS7 
      have HS8 := Lib.hid hS
      clear hS
      match k, hk with
      | 0, _ =>
        go_wp2_with (first
          | (refine wpList_load_at rfl 45 _ rfl (HS8.out.at_ 2 rfl) 8 (.agg #[.int .i64 0, .int .i64 0, .int .i64 1000, .int .i64 0, .int .i64 0, .int .i64 1, .int .i64 a.prt, .int .i64 b.prt]) rfl _ Try.underlying45 rfl (by kernel_rfl) (Nat.le_of_ble_eq_true rfl) rfl ?_)
          | (refine wpList_alloc_b rfl (some 11) rfl 45 (#[.int .i64 0, .int .i64 0, .int .i64 0, .int .i64 0, .int .i64 0, .int .i64 0, .int .i64 0, .int .i64 0]) (by kernel_rfl) ?_; intro g9 W9 hb hB hg; have HS9 := Lib.hid (HS8.out.new hb hB hg); clear hb hB hg HS8)
          | (refine wpList_store_at rfl 45 _ _ rfl (HS9.out.at_ 3 rfl) (.agg #[.int .i64 0, .int .i64 0, .int .i64 1000, .int .i64 0, .int .i64 0, .int .i64 1, .int .i64 a.prt, .int .i64 b.prt]) rfl rfl (by kernel_rfl) (Nat.le_of_ble_eq_true rfl) (by kernel_rfl) ?_; intro W10 hB hP; have HS10 := Lib.hid (HS9.out.put 3 rfl (new := #[.int .i64 0, .int .i64 0, .int .i64 1000, .int .i64 0, .int .i64 0, .int .i64 1, .int .i64 a.prt, .int .i64 b.prt]) hB hP); clear hB hP HS9))
        refine region_b (Bs w _) (by kernel_rfl) (by kernel_rfl) HS10.out ?_
        clear HS10
        intro W11 hS
        have HS11 := Lib.hid hS
        clear hS
        repeat (first | (refine wpQuiet_load_b (by kernel_rfl) 23 _ rfl (HS11.out.at_ 0 rfl) 6 (fV a) rfl _ Try.underlying23 rfl (by kernel_rfl) (Nat.le_of_ble_eq_true rfl) rfl ?_) | (refine wpQuiet_load_b (by kernel_rfl) 23 _ rfl (HS11.out.at_ 1 rfl) 6 (fV b) rfl _ Try.underlying23 rfl (by kernel_rfl) (Nat.le_of_ble_eq_true rfl) rfl ?_) | (refine wpQuiet_load_b (by kernel_rfl) 31 _ rfl (HS11.out.at_ 3 rfl) 6 (.agg #[.int .i64 0, .int .i64 0, .int .i64 1000, .int .i64 0, .int .i64 0, .int .i64 1]) rfl _ Try.underlying31 rfl (by kernel_rfl) (Nat.le_of_ble_eq_true rfl) rfl ?_) | go_big_quiet_step (first | with_reducible exact Calls.regrown_of (facts_c a _) | with_reducible exact Calls.regrown_of (facts_c b _) | with_reducible exact Calls.regrown_of (HP.out _)) | quiet_step (first | with_reducible exact Calls.regrown_of (facts_c a _) | with_reducible exact Calls.regrown_of (facts_c b _) | with_reducible exact Calls.regrown_of (HP.out _)))
        refine wpQuiet_nil ?_
        intro W12 hb
        have HS12 := Lib.hid (HS11.out.after hb)
        clear hb HS11
        rcases Int.lt_trichotomy b.prt a.prt with ht | ht | ht
        · skip
          obtain ⟨r3a, r3b, r3c⟩ := HS12.out.rules 3 rfl
          go_wp2_with fail
          go_wp2_with fail
          exact ⟨⟨1, by omega, rfl, (Bs.cut (l := [⟨g1, 23, fA a⟩, ⟨g2, 23, fA b⟩, ⟨g7, 45, #[.int .i64 0, .int .i64 0, .int .i64 1000, .int .i64 0, .int .i64 0, .int .i64 1, .int .i64 a.prt, .int .i64 b.prt, .int .i64 0, .int .i64 0, .int .i64 0, .int .i64 1000, .int .i64 0, .int .i64 1, .int .i64 a.qos, .int .i64 b.qos, .int .i64 0, .int .i64 0, .int .i64 0, .int .i64 0, .int .i64 1000, .int .i64 1, .int .i64 a.shr, .int .i64 b.shr, .int .i64 0, .int .i64 256, .int .i64 0, .int .i64 0, .int .i64 0, .int .i64 1, .int .i64 a.nod, .int .i64 b.nod]⟩]) (k := [⟨g9, 45, #[.int .i64 0, .int .i64 0, .int .i64 1000, .int .i64 0, .int .i64 0, .int .i64 1, .int .i64 a.prt, .int .i64 b.prt]⟩]) HS12.out)⟩, by simp [intOf]⟩
        · skip
          have hz : (a.prt == b.prt) = true := by simp [ht]
          have hy : ¬ b.prt < a.prt := by omega
          have hx : decide (a.prt = b.prt) = true := decide_eq_true ht.symm
          clear ht
          obtain ⟨r3a, r3b, r3c⟩ := HS12.out.rules 3 rfl
          go_wp2_with fail
          go_wp2_with fail
          exact ⟨⟨1, by omega, rfl, (Bs.cut (l := [⟨g1, 23, fA a⟩, ⟨g2, 23, fA b⟩, ⟨g7, 45, #[.int .i64 0, .int .i64 0, .int .i64 1000, .int .i64 0, .int .i64 0, .int .i64 1, .int .i64 a.prt, .int .i64 b.prt, .int .i64 0, .int .i64 0, .int .i64 0, .int .i64 1000, .int .i64 0, .int .i64 1, .int .i64 a.qos, .int .i64 b.qos, .int .i64 0, .int .i64 0, .int .i64 0, .int .i64 0, .int .i64 1000, .int .i64 1, .int .i64 a.shr, .int .i64 b.shr, .int .i64 0, .int .i64 256, .int .i64 0, .int .i64 0, .int .i64 0, .int .i64 1, .int .i64 a.nod, .int .i64 b.nod]⟩]) (k := [⟨g9, 45, #[.int .i64 0, .int .i64 0, .int .i64 1000, .int .i64 0, .int .i64 0, .int .i64 1, .int .i64 a.prt, .int .i64 b.prt]⟩]) HS12.out)⟩, by simp [intOf]⟩
        · skip
          have hz : (a.prt == b.prt) = false := by rw [beq_eq_false_iff_ne]; omega
          have hy : ¬ b.prt < a.prt := by omega
          have hx : decide (a.prt = b.prt) = false := decide_eq_false (by omega)
          clear ht
          obtain ⟨r3a, r3b, r3c⟩ := HS12.out.rules 3 rfl
          go_wp2_with fail
          go_wp2_with fail
          exact ⟨⟨1, by omega, rfl, (Bs.cut (l := [⟨g1, 23, fA a⟩, ⟨g2, 23, fA b⟩, ⟨g7, 45, #[.int .i64 0, .int .i64 0, .int .i64 1000, .int .i64 0, .int .i64 0, .int .i64 1, .int .i64 a.prt, .int .i64 b.prt, .int .i64 0, .int .i64 0, .int .i64 0, .int .i64 1000, .int .i64 0, .int .i64 1, .int .i64 a.qos, .int .i64 b.qos, .int .i64 0, .int .i64 0, .int .i64 0, .int .i64 0, .int .i64 1000, .int .i64 1, .int .i64 a.shr, .int .i64 b.shr, .int .i64 0, .int .i64 256, .int .i64 0, .int .i64 0, .int .i64 0, .int .i64 1, .int .i64 a.nod, .int .i64 b.nod]⟩]) (k := [⟨g9, 45, #[.int .i64 0, .int .i64 0, .int .i64 1000, .int .i64 0, .int .i64 0, .int .i64 1, .int .i64 a.prt, .int .i64 b.prt]⟩]) HS12.out)⟩, by simp [intOf]⟩
      | 1, _ =>
        go_wp2_with (first
          | (refine wpList_load_at rfl 45 _ rfl (HS8.out.at_ 2 rfl) 8 (.agg #[.int .i64 0, .int .i64 0, .int .i64 0, .int .i64 1000, .int .i64 0, .int .i64 1, .int .i64 a.qos, .int .i64 b.qos]) rfl _ Try.underlying45 rfl (by kernel_rfl) (Nat.le_of_ble_eq_true rfl) rfl ?_)
          | (refine wpList_alloc_b rfl (some 11) rfl 45 (#[.int .i64 0, .int .i64 0, .int .i64 0, .int .i64 0, .int .i64 0, .int .i64 0, .int .i64 0, .int .i64 0]) (by kernel_rfl) ?_; intro g9 W9 hb hB hg; have HS9 := Lib.hid (HS8.out.new hb hB hg); clear hb hB hg HS8)
          | (refine wpList_store_at rfl 45 _ _ rfl (HS9.out.at_ 3 rfl) (.agg #[.int .i64 0, .int .i64 0, .int .i64 0, .int .i64 1000, .int .i64 0, .int .i64 1, .int .i64 a.qos, .int .i64 b.qos]) rfl rfl (by kernel_rfl) (Nat.le_of_ble_eq_true rfl) (by kernel_rfl) ?_; intro W10 hB hP; have HS10 := Lib.hid (HS9.out.put 3 rfl (new := #[.int .i64 0, .int .i64 0, .int .i64 0, .int .i64 1000, .int .i64 0, .int .i64 1, .int .i64 a.qos, .int .i64 b.qos]) hB hP); clear hB hP HS9))
        refine region_b (Bs w _) (by kernel_rfl) (by kernel_rfl) HS10.out ?_
        clear HS10
        intro W11 hS
        have HS11 := Lib.hid hS
        clear hS
        repeat (first | (refine wpQuiet_load_b (by kernel_rfl) 23 _ rfl (HS11.out.at_ 0 rfl) 6 (fV a) rfl _ Try.underlying23 rfl (by kernel_rfl) (Nat.le_of_ble_eq_true rfl) rfl ?_) | (refine wpQuiet_load_b (by kernel_rfl) 23 _ rfl (HS11.out.at_ 1 rfl) 6 (fV b) rfl _ Try.underlying23 rfl (by kernel_rfl) (Nat.le_of_ble_eq_true rfl) rfl ?_) | (refine wpQuiet_load_b (by kernel_rfl) 31 _ rfl (HS11.out.at_ 3 rfl) 6 (.agg #[.int .i64 0, .int .i64 0, .int .i64 0, .int .i64 1000, .int .i64 0, .int .i64 1]) rfl _ Try.underlying31 rfl (by kernel_rfl) (Nat.le_of_ble_eq_true rfl) rfl ?_) | go_big_quiet_step (first | with_reducible exact Calls.regrown_of (facts_c a _) | with_reducible exact Calls.regrown_of (facts_c b _) | with_reducible exact Calls.regrown_of (HQ.out _)) | quiet_step (first | with_reducible exact Calls.regrown_of (facts_c a _) | with_reducible exact Calls.regrown_of (facts_c b _) | with_reducible exact Calls.regrown_of (HQ.out _)))
        refine wpQuiet_nil ?_
        intro W12 hb
        have HS12 := Lib.hid (HS11.out.after hb)
        clear hb HS11
        rcases Int.lt_trichotomy b.qos a.qos with ht | ht | ht
        · skip
          obtain ⟨r3a, r3b, r3c⟩ := HS12.out.rules 3 rfl
          go_wp2_with fail
          go_wp2_with fail
          exact ⟨⟨2, by omega, rfl, (Bs.cut (l := [⟨g1, 23, fA a⟩, ⟨g2, 23, fA b⟩, ⟨g7, 45, #[.int .i64 0, .int .i64 0, .int .i64 1000, .int .i64 0, .int .i64 0, .int .i64 1, .int .i64 a.prt, .int .i64 b.prt, .int .i64 0, .int .i64 0, .int .i64 0, .int .i64 1000, .int .i64 0, .int .i64 1, .int .i64 a.qos, .int .i64 b.qos, .int .i64 0, .int .i64 0, .int .i64 0, .int .i64 0, .int .i64 1000, .int .i64 1, .int .i64 a.shr, .int .i64 b.shr, .int .i64 0, .int .i64 256, .int .i64 0, .int .i64 0, .int .i64 0, .int .i64 1, .int .i64 a.nod, .int .i64 b.nod]⟩]) (k := [⟨g9, 45, #[.int .i64 0, .int .i64 0, .int .i64 0, .int .i64 1000, .int .i64 0, .int .i64 1, .int .i64 a.qos, .int .i64 b.qos]⟩]) HS12.out)⟩, by simp [intOf]⟩
        · skip
          have hz : (a.qos == b.qos) = true := by simp [ht]
          have hy : ¬ b.qos < a.qos := by omega
          have hx : decide (a.qos = b.qos) = true := decide_eq_true ht.symm
          clear ht
          obtain ⟨r3a, r3b, r3c⟩ := HS12.out.rules 3 rfl
          go_wp2_with fail
          go_wp2_with fail
          exact ⟨⟨2, by omega, rfl, (Bs.cut (l := [⟨g1, 23, fA a⟩, ⟨g2, 23, fA b⟩, ⟨g7, 45, #[.int .i64 0, .int .i64 0, .int .i64 1000, .int .i64 0, .int .i64 0, .int .i64 1, .int .i64 a.prt, .int .i64 b.prt, .int .i64 0, .int .i64 0, .int .i64 0, .int .i64 1000, .int .i64 0, .int .i64 1, .int .i64 a.qos, .int .i64 b.qos, .int .i64 0, .int .i64 0, .int .i64 0, .int .i64 0, .int .i64 1000, .int .i64 1, .int .i64 a.shr, .int .i64 b.shr, .int .i64 0, .int .i64 256, .int .i64 0, .int .i64 0, .int .i64 0, .int .i64 1, .int .i64 a.nod, .int .i64 b.nod]⟩]) (k := [⟨g9, 45, #[.int .i64 0, .int .i64 0, .int .i64 0, .int .i64 1000, .int .i64 0, .int .i64 1, .int .i64 a.qos, .int .i64 b.qos]⟩]) HS12.out)⟩, by simp [intOf]⟩
        · skip
          have hz : (a.qos == b.qos) = false := by rw [beq_eq_false_iff_ne]; omega
          have hy : ¬ b.qos < a.qos := by omega
          have hx : decide (a.qos = b.qos) = false := decide_eq_false (by omega)
          clear ht
          obtain ⟨r3a, r3b, r3c⟩ := HS12.out.rules 3 rfl
          go_wp2_with fail
          go_wp2_with fail
          exact ⟨⟨2, by omega, rfl, (Bs.cut (l := [⟨g1, 23, fA a⟩, ⟨g2, 23, fA b⟩, ⟨g7, 45, #[.int .i64 0, .int .i64 0, .int .i64 1000, .int .i64 0, .int .i64 0, .int .i64 1, .int .i64 a.prt, .int .i64 b.prt, .int .i64 0, .int .i64 0, .int .i64 0, .int .i64 1000, .int .i64 0, .int .i64 1, .int .i64 a.qos, .int .i64 b.qos, .int .i64 0, .int .i64 0, .int .i64 0, .int .i64 0, .int .i64 1000, .int .i64 1, .int .i64 a.shr, .int .i64 b.shr, .int .i64 0, .int .i64 256, .int .i64 0, .int .i64 0, .int .i64 0, .int .i64 1, .int .i64 a.nod, .int .i64 b.nod]⟩]) (k := [⟨g9, 45, #[.int .i64 0, .int .i64 0, .int .i64 0, .int .i64 1000, .int .i64 0, .int .i64 1, .int .i64 a.qos, .int .i64 b.qos]⟩]) HS12.out)⟩, by simp [intOf]⟩
      | 2, _ =>
        go_wp2_with (first
          | (refine wpList_load_at rfl 45 _ rfl (HS8.out.at_ 2 rfl) 8 (.agg #[.int .i64 0, .int .i64 0, .int .i64 0, .int .i64 0, .int .i64 1000, .int .i64 1, .int .i64 a.shr, .int .i64 b.shr]) rfl _ Try.underlying45 rfl (by kernel_rfl) (Nat.le_of_ble_eq_true rfl) rfl ?_)
          | (refine wpList_alloc_b rfl (some 11) rfl 45 (#[.int .i64 0, .int .i64 0, .int .i64 0, .int .i64 0, .int .i64 0, .int .i64 0, .int .i64 0, .int .i64 0]) (by kernel_rfl) ?_; intro g9 W9 hb hB hg; have HS9 := Lib.hid (HS8.out.new hb hB hg); clear hb hB hg HS8)
          | (refine wpList_store_at rfl 45 _ _ rfl (HS9.out.at_ 3 rfl) (.agg #[.int .i64 0, .int .i64 0, .int .i64 0, .int .i64 0, .int .i64 1000, .int .i64 1, .int .i64 a.shr, .int .i64 b.shr]) rfl rfl (by kernel_rfl) (Nat.le_of_ble_eq_true rfl) (by kernel_rfl) ?_; intro W10 hB hP; have HS10 := Lib.hid (HS9.out.put 3 rfl (new := #[.int .i64 0, .int .i64 0, .int .i64 0, .int .i64 0, .int .i64 1000, .int .i64 1, .int .i64 a.shr, .int .i64 b.shr]) hB hP); clear hB hP HS9))
        refine region_b (Bs w _) (by kernel_rfl) (by kernel_rfl) HS10.out ?_
        clear HS10
        intro W11 hS
        have HS11 := Lib.hid hS
        clear hS
        repeat (first | (refine wpQuiet_load_b (by kernel_rfl) 23 _ rfl (HS11.out.at_ 0 rfl) 6 (fV a) rfl _ Try.underlying23 rfl (by kernel_rfl) (Nat.le_of_ble_eq_true rfl) rfl ?_) | (refine wpQuiet_load_b (by kernel_rfl) 23 _ rfl (HS11.out.at_ 1 rfl) 6 (fV b) rfl _ Try.underlying23 rfl (by kernel_rfl) (Nat.le_of_ble_eq_true rfl) rfl ?_) | (refine wpQuiet_load_b (by kernel_rfl) 31 _ rfl (HS11.out.at_ 3 rfl) 6 (.agg #[.int .i64 0, .int .i64 0, .int .i64 0, .int .i64 0, .int .i64 1000, .int .i64 1]) rfl _ Try.underlying31 rfl (by kernel_rfl) (Nat.le_of_ble_eq_true rfl) rfl ?_) | go_big_quiet_step (first | with_reducible exact Calls.regrown_of (facts_c a _) | with_reducible exact Calls.regrown_of (facts_c b _) | with_reducible exact Calls.regrown_of (HR.out _)) | quiet_step (first | with_reducible exact Calls.regrown_of (facts_c a _) | with_reducible exact Calls.regrown_of (facts_c b _) | with_reducible exact Calls.regrown_of (HR.out _)))
        refine wpQuiet_nil ?_
        intro W12 hb
        have HS12 := Lib.hid (HS11.out.after hb)
        clear hb HS11
        rcases Int.lt_trichotomy b.shr a.shr with ht | ht | ht
        · skip
          obtain ⟨r3a, r3b, r3c⟩ := HS12.out.rules 3 rfl
          go_wp2_with fail
          go_wp2_with fail
          exact ⟨⟨3, by omega, rfl, (Bs.cut (l := [⟨g1, 23, fA a⟩, ⟨g2, 23, fA b⟩, ⟨g7, 45, #[.int .i64 0, .int .i64 0, .int .i64 1000, .int .i64 0, .int .i64 0, .int .i64 1, .int .i64 a.prt, .int .i64 b.prt, .int .i64 0, .int .i64 0, .int .i64 0, .int .i64 1000, .int .i64 0, .int .i64 1, .int .i64 a.qos, .int .i64 b.qos, .int .i64 0, .int .i64 0, .int .i64 0, .int .i64 0, .int .i64 1000, .int .i64 1, .int .i64 a.shr, .int .i64 b.shr, .int .i64 0, .int .i64 256, .int .i64 0, .int .i64 0, .int .i64 0, .int .i64 1, .int .i64 a.nod, .int .i64 b.nod]⟩]) (k := [⟨g9, 45, #[.int .i64 0, .int .i64 0, .int .i64 0, .int .i64 0, .int .i64 1000, .int .i64 1, .int .i64 a.shr, .int .i64 b.shr]⟩]) HS12.out)⟩, by simp [intOf]⟩
        · skip
          have hz : (a.shr == b.shr) = true := by simp [ht]
          have hy : ¬ b.shr < a.shr := by omega
          have hx : decide (a.shr = b.shr) = true := decide_eq_true ht.symm
          clear ht
          obtain ⟨r3a, r3b, r3c⟩ := HS12.out.rules 3 rfl
          go_wp2_with fail
          go_wp2_with fail
          exact ⟨⟨3, by omega, rfl, (Bs.cut (l := [⟨g1, 23, fA a⟩, ⟨g2, 23, fA b⟩, ⟨g7, 45, #[.int .i64 0, .int .i64 0, .int .i64 1000, .int .i64 0, .int .i64 0, .int .i64 1, .int .i64 a.prt, .int .i64 b.prt, .int .i64 0, .int .i64 0, .int .i64 0, .int .i64 1000, .int .i64 0, .int .i64 1, .int .i64 a.qos, .int .i64 b.qos, .int .i64 0, .int .i64 0, .int .i64 0, .int .i64 0, .int .i64 1000, .int .i64 1, .int .i64 a.shr, .int .i64 b.shr, .int .i64 0, .int .i64 256, .int .i64 0, .int .i64 0, .int .i64 0, .int .i64 1, .int .i64 a.nod, .int .i64 b.nod]⟩]) (k := [⟨g9, 45, #[.int .i64 0, .int .i64 0, .int .i64 0, .int .i64 0, .int .i64 1000, .int .i64 1, .int .i64 a.shr, .int .i64 b.shr]⟩]) HS12.out)⟩, by simp [intOf]⟩
        · skip
          have hz : (a.shr == b.shr) = false := by rw [beq_eq_false_iff_ne]; omega
          have hy : ¬ b.shr < a.shr := by omega
          have hx : decide (a.shr = b.shr) = false := decide_eq_false (by omega)
          clear ht
          obtain ⟨r3a, r3b, r3c⟩ := HS12.out.rules 3 rfl
          go_wp2_with fail
          go_wp2_with fail
          exact ⟨⟨3, by omega, rfl, (Bs.cut (l := [⟨g1, 23, fA a⟩, ⟨g2, 23, fA b⟩, ⟨g7, 45, #[.int .i64 0, .int .i64 0, .int .i64 1000, .int .i64 0, .int .i64 0, .int .i64 1, .int .i64 a.prt, .int .i64 b.prt, .int .i64 0, .int .i64 0, .int .i64 0, .int .i64 1000, .int .i64 0, .int .i64 1, .int .i64 a.qos, .int .i64 b.qos, .int .i64 0, .int .i64 0, .int .i64 0, .int .i64 0, .int .i64 1000, .int .i64 1, .int .i64 a.shr, .int .i64 b.shr, .int .i64 0, .int .i64 256, .int .i64 0, .int .i64 0, .int .i64 0, .int .i64 1, .int .i64 a.nod, .int .i64 b.nod]⟩]) (k := [⟨g9, 45, #[.int .i64 0, .int .i64 0, .int .i64 0, .int .i64 0, .int .i64 1000, .int .i64 1, .int .i64 a.shr, .int .i64 b.shr]⟩]) HS12.out)⟩, by simp [intOf]⟩
      | 3, _ =>
        go_wp2_with (first
          | (refine wpList_load_at rfl 45 _ rfl (HS8.out.at_ 2 rfl) 8 (.agg #[.int .i64 0, .int .i64 256, .int .i64 0, .int .i64 0, .int .i64 0, .int .i64 1, .int .i64 a.nod, .int .i64 b.nod]) rfl _ Try.underlying45 rfl (by kernel_rfl) (Nat.le_of_ble_eq_true rfl) rfl ?_)
          | (refine wpList_alloc_b rfl (some 11) rfl 45 (#[.int .i64 0, .int .i64 0, .int .i64 0, .int .i64 0, .int .i64 0, .int .i64 0, .int .i64 0, .int .i64 0]) (by kernel_rfl) ?_; intro g9 W9 hb hB hg; have HS9 := Lib.hid (HS8.out.new hb hB hg); clear hb hB hg HS8)
          | (refine wpList_store_at rfl 45 _ _ rfl (HS9.out.at_ 3 rfl) (.agg #[.int .i64 0, .int .i64 256, .int .i64 0, .int .i64 0, .int .i64 0, .int .i64 1, .int .i64 a.nod, .int .i64 b.nod]) rfl rfl (by kernel_rfl) (Nat.le_of_ble_eq_true rfl) (by kernel_rfl) ?_; intro W10 hB hP; have HS10 := Lib.hid (HS9.out.put 3 rfl (new := #[.int .i64 0, .int .i64 256, .int .i64 0, .int .i64 0, .int .i64 0, .int .i64 1, .int .i64 a.nod, .int .i64 b.nod]) hB hP); clear hB hP HS9))
        refine region_b (Bs w _) (by kernel_rfl) (by kernel_rfl) HS10.out ?_
        clear HS10
        intro W11 hS
        have HS11 := Lib.hid hS
        clear hS
        repeat (first | (refine wpQuiet_load_b (by kernel_rfl) 23 _ rfl (HS11.out.at_ 0 rfl) 6 (fV a) rfl _ Try.underlying23 rfl (by kernel_rfl) (Nat.le_of_ble_eq_true rfl) rfl ?_) | (refine wpQuiet_load_b (by kernel_rfl) 23 _ rfl (HS11.out.at_ 1 rfl) 6 (fV b) rfl _ Try.underlying23 rfl (by kernel_rfl) (Nat.le_of_ble_eq_true rfl) rfl ?_) | (refine wpQuiet_load_b (by kernel_rfl) 31 _ rfl (HS11.out.at_ 3 rfl) 6 (.agg #[.int .i64 0, .int .i64 256, .int .i64 0, .int .i64 0, .int .i64 0, .int .i64 1]) rfl _ Try.underlying31 rfl (by kernel_rfl) (Nat.le_of_ble_eq_true rfl) rfl ?_) | go_big_quiet_step (first | with_reducible exact Calls.regrown_of (facts_c a _) | with_reducible exact Calls.regrown_of (facts_c b _) | with_reducible exact Calls.regrown_of (HZ.out _)) | quiet_step (first | with_reducible exact Calls.regrown_of (facts_c a _) | with_reducible exact Calls.regrown_of (facts_c b _) | with_reducible exact Calls.regrown_of (HZ.out _)))
        refine wpQuiet_nil ?_
        intro W12 hb
        have HS12 := Lib.hid (HS11.out.after hb)
        clear hb HS11
        rcases Int.lt_trichotomy b.nod a.nod with ht | ht | ht
        · skip
          obtain ⟨r3a, r3b, r3c⟩ := HS12.out.rules 3 rfl
          go_wp2_with fail
          go_wp2_with fail
          exact ⟨⟨4, by omega, rfl, (Bs.cut (l := [⟨g1, 23, fA a⟩, ⟨g2, 23, fA b⟩, ⟨g7, 45, #[.int .i64 0, .int .i64 0, .int .i64 1000, .int .i64 0, .int .i64 0, .int .i64 1, .int .i64 a.prt, .int .i64 b.prt, .int .i64 0, .int .i64 0, .int .i64 0, .int .i64 1000, .int .i64 0, .int .i64 1, .int .i64 a.qos, .int .i64 b.qos, .int .i64 0, .int .i64 0, .int .i64 0, .int .i64 0, .int .i64 1000, .int .i64 1, .int .i64 a.shr, .int .i64 b.shr, .int .i64 0, .int .i64 256, .int .i64 0, .int .i64 0, .int .i64 0, .int .i64 1, .int .i64 a.nod, .int .i64 b.nod]⟩]) (k := [⟨g9, 45, #[.int .i64 0, .int .i64 256, .int .i64 0, .int .i64 0, .int .i64 0, .int .i64 1, .int .i64 a.nod, .int .i64 b.nod]⟩]) HS12.out)⟩, by simp [intOf]⟩
        · skip
          have hz : (a.nod == b.nod) = true := by simp [ht]
          have hy : ¬ b.nod < a.nod := by omega
          have hx : decide (a.nod = b.nod) = true := decide_eq_true ht.symm
          clear ht
          obtain ⟨r3a, r3b, r3c⟩ := HS12.out.rules 3 rfl
          go_wp2_with fail
          go_wp2_with fail
          exact ⟨⟨4, by omega, rfl, (Bs.cut (l := [⟨g1, 23, fA a⟩, ⟨g2, 23, fA b⟩, ⟨g7, 45, #[.int .i64 0, .int .i64 0, .int .i64 1000, .int .i64 0, .int .i64 0, .int .i64 1, .int .i64 a.prt, .int .i64 b.prt, .int .i64 0, .int .i64 0, .int .i64 0, .int .i64 1000, .int .i64 0, .int .i64 1, .int .i64 a.qos, .int .i64 b.qos, .int .i64 0, .int .i64 0, .int .i64 0, .int .i64 0, .int .i64 1000, .int .i64 1, .int .i64 a.shr, .int .i64 b.shr, .int .i64 0, .int .i64 256, .int .i64 0, .int .i64 0, .int .i64 0, .int .i64 1, .int .i64 a.nod, .int .i64 b.nod]⟩]) (k := [⟨g9, 45, #[.int .i64 0, .int .i64 256, .int .i64 0, .int .i64 0, .int .i64 0, .int .i64 1, .int .i64 a.nod, .int .i64 b.nod]⟩]) HS12.out)⟩, by simp [intOf]⟩
        · skip
          have hz : (a.nod == b.nod) = false := by rw [beq_eq_false_iff_ne]; omega
          have hy : ¬ b.nod < a.nod := by omega
          have hx : decide (a.nod = b.nod) = false := decide_eq_false (by omega)
          clear ht
          obtain ⟨r3a, r3b, r3c⟩ := HS12.out.rules 3 rfl
          go_wp2_with fail
          go_wp2_with fail
          exact ⟨⟨4, by omega, rfl, (Bs.cut (l := [⟨g1, 23, fA a⟩, ⟨g2, 23, fA b⟩, ⟨g7, 45, #[.int .i64 0, .int .i64 0, .int .i64 1000, .int .i64 0, .int .i64 0, .int .i64 1, .int .i64 a.prt, .int .i64 b.prt, .int .i64 0, .int .i64 0, .int .i64 0, .int .i64 1000, .int .i64 0, .int .i64 1, .int .i64 a.qos, .int .i64 b.qos, .int .i64 0, .int .i64 0, .int .i64 0, .int .i64 0, .int .i64 1000, .int .i64 1, .int .i64 a.shr, .int .i64 b.shr, .int .i64 0, .int .i64 256, .int .i64 0, .int .i64 0, .int .i64 0, .int .i64 1, .int .i64 a.nod, .int .i64 b.nod]⟩]) (k := [⟨g9, 45, #[.int .i64 0, .int .i64 256, .int .i64 0, .int .i64 0, .int .i64 0, .int .i64 1, .int .i64 a.nod, .int .i64 b.nod]⟩]) HS12.out)⟩, by simp [intOf]⟩
      | 4, _ =>
        go_wp2_with fail
        refine (alive_c _).mono ?_
        rintro e W9 ⟨rfl, hb⟩
        have HS9 := Lib.hid (HS8.out.after hb)
        clear hb HS8
        go_wp2
        go_ret
        exact ⟨rfl, HS9.out.below⟩
end Go.Proofs.Ytmilcgfcmeahgaa
