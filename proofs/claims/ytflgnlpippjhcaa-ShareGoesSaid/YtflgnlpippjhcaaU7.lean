/- Share: alive; a ledger that nobody made; ShareNobody. -/
import Derived.Test.YtflgnlpippjhcaaU6
set_option linter.unusedVariables false
set_option maxRecDepth 100000
namespace Go.Proofs.Ytflgnlpippjhcaa
open Go.RowKit Go.Sort Go.Maps

theorem used_c (g b : Nat) (half : Int) (L : Led) (n : Nm) (now : Int) (w : World) (hR : LdR w g b half L) (hn : n.length ≤ maxLen) : Calls Try.prog 16 #[.pointer (some ⟨g, 0, none⟩), str n, .int .i64 now] w fun e w' => e = .returned (.tuple #[.int .i64 (usedV half L n now), .int .i64 (userE L n now)]) ∧ Below w.heap.size w w' := by
  rcases userE_cases L n now with hu | hu
  · rw [hu]
    exact used_y g b half L n now w hR hn hu
  · have e : usedV half L n now = 0 := by unfold usedV; rw [if_neg (by omega)]
    rw [hu, e]
    exact used_n g b half L n now w hR hn hu
theorem tot_c (g b : Nat) (half : Int) (L : Led) (now : Int) (w : World) (hR : LdR w g b half L) : Calls Try.prog 20 #[.pointer (some ⟨g, 0, none⟩), .int .i64 now] w fun e w' => e = .returned (.tuple #[.int .i64 (totV half L now), .int .i64 (totE now)]) ∧ Below w.heap.size w w' := by
  by_cases ht : timeP now
  · rw [show totE now = 0 by unfold totE; rw [if_pos ht]]
    exact tot_y g b half L now w hR ht
  · rw [show totE now = 1 by unfold totE; rw [if_neg ht], show totV half L now = 0 by unfold totV; rw [if_neg ht]]
    exact tot_n g b half L now w hR ht
theorem Own.ldR_ {w : World} {g b : Nat} {half : Int} {L : Led} (h : (ldP g b half L).ok w) (hL : LOk half L) : LdR w g b half L := (Ms.open_ h).ldM 0 1 rfl rfl hL
/-! ### alive -/
abbrev ann : Nm := [97, 110, 110]
abbrev bob : Nm := [98, 111, 98]
theorem al_e : addE [] ann 100 0 = 0 := by decide
theorem al_l : addL 10 [] ann 100 0 = [(ann, ⟨100, 0⟩)] := rfl
theorem al_1 : usedV 10 [(ann, ⟨100, 0⟩)] ann 9 = 100 ∧ userE [(ann, ⟨100, 0⟩)] ann 9 = 0 := by decide
theorem al_2 : usedV 10 [(ann, ⟨100, 0⟩)] ann 25 = 25 ∧ userE [(ann, ⟨100, 0⟩)] ann 25 = 0 := by decide
theorem al_3 : facV 10 [(ann, ⟨100, 0⟩)] bob 3 = 1000 ∧ userE [(ann, ⟨100, 0⟩)] bob 3 = 0 := by decide
theorem al_ok : LOk 10 [(ann, ⟨100, 0⟩)] := by
  have := addL_ok (new_ok (half := 10) ⟨by omega, by omega⟩) ann 100 0
  rwa [al_l] at this
theorem alive_c (w : World) : Calls Try.prog 12 #[] w fun e w' => e = .returned (.bool true) ∧ Below w.heap.size w w' := by
  go_enter Try.func12, Try.ntmps12
  have HS0 := Lib.hid (Ms.nil w noB)
  go_wp2_with fail
  refine (new_y 10 _ (by omega) (by omega)).mono ?_
  rintro e W1 ⟨g1, b1, rfl, hM⟩
  have HS1 := Lib.hid (HS0.out.made hM)
  clear hM HS0
  go_wp2_with fail
  refine (add_l g1 b1 10 [] ann 100 0 _ (HS1.out.ok 0 _ rfl) (new_ok ⟨by omega, by omega⟩) (by decide)).mono ?_
  rintro e W2 ⟨rfl, hM⟩
  have HS2 := Lib.hid (HS1.out.call 0 rfl hM)
  clear hM HS1
  rw [al_l] at HS2
  rw [al_e]
  go_wp2_with fail
  refine (used_c g1 b1 10 [(ann, ⟨100, 0⟩)] ann 9 _ (Own.ldR_ (HS2.out.ok 0 _ rfl) al_ok) (by decide)).mono ?_
  rintro e W3 ⟨rfl, hb⟩
  have HS3 := Lib.hid (HS2.out.after hb)
  clear hb HS2
  rw [al_1.1, al_1.2]
  go_wp2_with fail
  refine (used_c g1 b1 10 [(ann, ⟨100, 0⟩)] ann 25 _ (Own.ldR_ (HS3.out.ok 0 _ rfl) al_ok) (by decide)).mono ?_
  rintro e W4 ⟨rfl, hb⟩
  have HS4 := Lib.hid (HS3.out.after hb)
  clear hb HS3
  rw [al_2.1, al_2.2]
  go_wp2_with fail
  refine (fac_c g1 b1 10 [(ann, ⟨100, 0⟩)] bob 3 _ (Own.ldR_ (HS4.out.ok 0 _ rfl) al_ok) (by decide)).mono ?_
  rintro e W5 ⟨rfl, hb⟩
  have HS5 := Lib.hid (HS4.out.after hb)
  clear hb HS4
  rw [al_3.1, al_3.2]
  go_wp2_with fail
  go_ret
  exact ⟨rfl, HS5.out.below⟩
set_option maxHeartbeats 4000000 in
theorem user_nob (p : Option Addr) (n : Nm) (now : Int) (w : World) (hN : Nob w p) : Calls Try.prog 29 #[.pointer p, str n, .int .i64 now] w fun e w' => e = .returned (.tuple #[acV ⟨0, 0⟩, .bool false, .int .i64 2]) ∧ Below w.heap.size w w' := by
  have HN := Lib.hid hN
  clear hN
  go_enter Try.func29, Try.ntmps29
  have HS0 := Lib.hid (Ms.nil w noB)
  go_wp2_with (have hq := HS0; clear hq; (with_reducible refine atAlloc ?_); refine wpList_alloc_b rfl (some 6) rfl 66 (#[.int .i64 0, .int .i64 0]) (by kernel_rfl) ?_; intro g1 W1 hb hB hg; have HS1 := Lib.hid (HS0.out.new hb hB hg); clear hb hB hg HS0)
  refine (ok_n p _ (HN.out.below HS1.out.below)).mono ?_
  rintro e W2 ⟨rfl, hb⟩
  have HS2 := Lib.hid (HS1.out.after hb)
  clear hb HS1
  go_wp2_with (have hq := HS2; clear hq; (with_reducible refine atStore ?_); refine wpList_store_at rfl 66 _ _ rfl (HS2.out.at_ 0 rfl) (.agg #[.int .i64 0, .int .i64 0]) rfl rfl (by kernel_rfl) (Nat.le_of_ble_eq_true rfl) (by kernel_rfl) ?_; intro W3 hB hP; have HS3 := Lib.hid (HS2.out.put 0 rfl (new := #[.int .i64 0, .int .i64 0]) hB hP); clear hB hP HS2)
  exact post_cell_tmp2 (x := .bool false) (y := .int .i64 2) rfl rfl rfl rfl (HS3.out.at_ 0 rfl) Try.underlying66 rfl (by kernel_rfl) rfl ⟨rfl, HS3.out.below⟩
set_option maxHeartbeats 4000000 in
theorem used_nob (p : Option Addr) (n : Nm) (now : Int) (w : World) (hN : Nob w p) : Calls Try.prog 16 #[.pointer p, str n, .int .i64 now] w fun e w' => e = .returned (.tuple #[.int .i64 0, .int .i64 2]) ∧ Below w.heap.size w w' := by
  have HN := Lib.hid hN
  clear hN
  go_enter Try.func16, Try.ntmps16
  have HS0 := Lib.hid (Ms.nil w noB)
  go_wp2_with fail
  refine (user_nob p n now _ (HN.out.below HS0.out.below)).mono ?_
  rintro e W1 ⟨rfl, hb⟩
  have HS1 := Lib.hid (HS0.out.after hb)
  clear hb HS0
  go_wp2_with (first
    | (have hq := HS1; clear hq; (with_reducible refine atAlloc ?_); refine wpList_alloc_b rfl (some 8) rfl 66 (#[.int .i64 0, .int .i64 0]) (by kernel_rfl) ?_; intro g2 W2 hb hB hg; have HS2 := Lib.hid (HS1.out.new hb hB hg); clear hb hB hg HS1)
    | (have hq := HS2; clear hq; (with_reducible refine atStore ?_); refine wpList_store_at rfl 66 _ _ rfl (HS2.out.at_ 0 rfl) (acV ⟨0, 0⟩) rfl rfl (by kernel_rfl) (Nat.le_of_ble_eq_true rfl) (by kernel_rfl) ?_; intro W3 hB hP; have HS3 := Lib.hid (HS2.out.put 0 rfl (new := (acA ⟨0, 0⟩)) hB hP); clear hB hP HS2))
  go_ret2
  exact ⟨rfl, HS3.out.below⟩
set_option maxHeartbeats 4000000 in
theorem tot_nob (p : Option Addr) (now : Int) (w : World) (hN : Nob w p) : Calls Try.prog 20 #[.pointer p, .int .i64 now] w fun e w' => e = .returned (.tuple #[.int .i64 0, .int .i64 2]) ∧ Below w.heap.size w w' := by
  have HN := Lib.hid hN
  clear hN
  go_enter Try.func20, Try.ntmps20
  have HS0 := Lib.hid (Ms.nil w noB)
  go_wp2_with fail
  refine (user_nob p [] now _ (HN.out.below HS0.out.below)).mono ?_
  rintro e W1 ⟨rfl, hb⟩
  have HS1 := Lib.hid (HS0.out.after hb)
  clear hb HS0
  go_wp2_with (first
    | (have hq := HS1; clear hq; (with_reducible refine atAlloc ?_); refine wpList_alloc_b rfl (some 6) rfl 66 (#[.int .i64 0, .int .i64 0]) (by kernel_rfl) ?_; intro g2 W2 hb hB hg; have HS2 := Lib.hid (HS1.out.new hb hB hg); clear hb hB hg HS1)
    | (have hq := HS2; clear hq; (with_reducible refine atStore ?_); refine wpList_store_at rfl 66 _ _ rfl (HS2.out.at_ 0 rfl) (acV ⟨0, 0⟩) rfl rfl (by kernel_rfl) (Nat.le_of_ble_eq_true rfl) (by kernel_rfl) ?_; intro W3 hB hP; have HS3 := Lib.hid (HS2.out.put 0 rfl (new := (acA ⟨0, 0⟩)) hB hP); clear hB hP HS2))
  go_ret2
  exact ⟨rfl, HS3.out.below⟩
set_option maxHeartbeats 4000000 in
theorem fac_nob (p : Option Addr) (n : Nm) (now : Int) (w : World) (hN : Nob w p) : Calls Try.prog 18 #[.pointer p, str n, .int .i64 now] w fun e w' => e = .returned (.tuple #[.int .i64 0, .int .i64 2]) ∧ Below w.heap.size w w' := by
  have HN := Lib.hid hN
  clear hN
  go_enter Try.func18, Try.ntmps18
  have HS0 := Lib.hid (Ms.nil w noB)
  go_wp2_with fail
  refine (used_nob p n now _ (HN.out.below HS0.out.below)).mono ?_
  rintro e W1 ⟨rfl, hb⟩
  have HS1 := Lib.hid (HS0.out.after hb)
  clear hb HS0
  go_wp2_with fail
  go_ret2
  exact ⟨rfl, HS1.out.below⟩
set_option maxHeartbeats 4000000 in
theorem add_nob (p : Option Addr) (n : Nm) (amount now : Int) (w : World) (hN : Nob w p) : Calls Try.prog 14 #[.pointer p, str n, .int .i64 amount, .int .i64 now] w fun e w' => e = .returned (.int .i64 2) ∧ Below w.heap.size w w' := by
  have HN := Lib.hid hN
  clear hN
  go_enter Try.func14, Try.ntmps14
  have HS0 := Lib.hid (Ms.nil w noB)
  go_wp2_with fail
  refine (user_nob p n now _ (HN.out.below HS0.out.below)).mono ?_
  rintro e W1 ⟨rfl, hb⟩
  have HS1 := Lib.hid (HS0.out.after hb)
  clear hb HS0
  go_wp2_with (first
    | (have hq := HS1; clear hq; (with_reducible refine atAlloc ?_); refine wpList_alloc_b rfl (some 9) rfl 66 (#[.int .i64 0, .int .i64 0]) (by kernel_rfl) ?_; intro g2 W2 hb hB hg; have HS2 := Lib.hid (HS1.out.new hb hB hg); clear hb hB hg HS1)
    | (have hq := HS2; clear hq; (with_reducible refine atStore ?_); refine wpList_store_at rfl 66 _ _ rfl (HS2.out.at_ 0 rfl) (acV ⟨0, 0⟩) rfl rfl (by kernel_rfl) (Nat.le_of_ble_eq_true rfl) (by kernel_rfl) ?_; intro W3 hB hP; have HS3 := Lib.hid (HS2.out.put 0 rfl (new := (acA ⟨0, 0⟩)) hB hP); clear hB hP HS2))
  go_ret
  exact ⟨rfl, HS3.out.below⟩
set_option maxHeartbeats 4000000 in
theorem users_nob (p : Option Addr) (w : World) (hN : Nob w p) : Calls Try.prog 23 #[.pointer p] w fun e w' => e = .returned (.slice none 0 0) ∧ Below w.heap.size w w' := by
  have HN := Lib.hid hN
  clear hN
  go_enter Try.func23, Try.ntmps23
  have HS0 := Lib.hid (Ms.nil w noB)
  go_wp2_with fail
  refine (ok_n p _ (HN.out.below HS0.out.below)).mono ?_
  rintro e W1 ⟨rfl, hb⟩
  have HS1 := Lib.hid (HS0.out.after hb)
  clear hb HS0
  go_wp2_with fail
  go_ret
  exact ⟨rfl, HS1.out.below⟩
set_option maxHeartbeats 4000000 in
theorem save_nob (p : Option Addr) (w : World) (hN : Nob w p) : Calls Try.prog 25 #[.pointer p] w fun e w' => e = .returned (.slice none 0 0) ∧ Below w.heap.size w w' := by
  have HN := Lib.hid hN
  clear hN
  go_enter Try.func25, Try.ntmps25
  have HS0 := Lib.hid (Ms.nil w noB)
  go_wp2_with fail
  refine (ok_n p _ (HN.out.below HS0.out.below)).mono ?_
  rintro e W1 ⟨rfl, hb⟩
  have HS1 := Lib.hid (HS0.out.after hb)
  clear hb HS0
  go_wp2_with fail
  go_ret
  exact ⟨rfl, HS1.out.below⟩
theorem nob_of {P : Option Addr} {g : Nat} {W : World} (h : P = none ∨ P = some ⟨g, 0, none⟩) (hB : Blk W g lgT #[.int .i64 0, .map none]) : Nob W P := h.imp id (fun h => ⟨g, _, h, hB⟩)
set_option maxHeartbeats 16000000 in
theorem shareNobody_w (n : Nm) (amount now : Int) (w : World) (hn : n.length ≤ maxLen) : Calls Try.prog 7 #[.agg #[str n, .int .i64 amount, .int .i64 now]] w fun e w' => e = .returned (.bool true) ∧ Below w.heap.size w w' := by
  have HNL := Lib.hid hn
  clear hn
  go_enter Try.func7, Try.ntmps7
  have HS0 := Lib.hid (Ms.nil w noB)
  go_wp2_with (first
    | (have hq := HS0; clear hq; (with_reducible refine atBox ?_); refine wpList_alloc_b rfl (some 1) rfl 24 (#[str n, .int .i64 amount, .int .i64 now]) (by kernel_rfl) ?_; intro g1 W1 hb hB hg; have HS1 := Lib.hid (HS0.out.new hb hB hg); clear hb hB hg HS0)
    | (have hq := HS1; clear hq; (with_reducible refine atBox ?_); refine wpList_alloc_b rfl (some 12) rfl 56 (#[.int .i64 0, .map none]) (by kernel_rfl) ?_; intro g2 W2 hb hB hg; have HS2 := Lib.hid (HS1.out.new hb hB hg); clear hb hB hg HS1)
    | (have hq := HS2; clear hq; (with_reducible refine atBuild ?_); refine wpList_build_b rfl (some 13) rfl 25 2 (#[.pointer none, .pointer (some ⟨g2, 0, none⟩)]) (by kernel_rfl) ?_; intro g3 W3 hb hB hg; have HS3 := Lib.hid (HS2.out.new hb hB hg); clear hb hB hg HS2))
  go_loopw [15] (fun k wr => ∃ kk : Nat, kk ≤ 2 ∧ k = .int .i64 (kk : Nat) ∧ Hid (Ms w noB [(.blk g1 24 #[str n, .int .i64 amount, .int .i64 now]), (.blk g2 56 #[.int .i64 0, .map none]), (.blk g3 25 #[.pointer none, .pointer (some ⟨g2, 0, none⟩)])] wr)) (fun k _ => 2 - (intOf k).toNat)
  case atStart => exact ⟨0, by omega, rfl, HS3⟩
  case round =>
    obtain ⟨k, hk2, rfl, HS4⟩ := hrel
    by_cases hlt : k < 2
    · have hltI : (k : Int) < 2 := by omega
      obtain ⟨P, hc, hP⟩ : ∃ P, wr.cell? ⟨g3, k, none⟩ = some (.pointer P) ∧ (P = none ∨ P = some ⟨g2, 0, none⟩) := by
        have h1 := (HS4.out.rules 2 rfl).1
        rcases (show k = 0 ∨ k = 1 by omega) with rfl | rfl
        · exact ⟨_, h1 0, .inl rfl⟩
        · exact ⟨_, h1 1, .inr rfl⟩
      have HK := Lib.hid hP
      clear hP
      obtain ⟨r2a, r2b, r2c⟩ := HS4.out.rules 2 rfl
      obtain ⟨r0a, r0b, r0c⟩ := HS4.out.rules 0 rfl
      go_wp2_with fail
      refine (used_nob P n now _ (nob_of HK.out (HS4.out.at_ 1 rfl))).mono ?_
      rintro e W5 ⟨rfl, hb⟩
      have HS5 := Lib.hid (HS4.out.after hb)
      clear hb HS4 r2a r2b r2c r0a r0b r0c
      clear hc
      obtain ⟨r0a, r0b, r0c⟩ := HS5.out.rules 0 rfl
      go_wp2_with fail
      refine (tot_nob P now _ (nob_of HK.out (HS5.out.at_ 1 rfl))).mono ?_
      rintro e W6 ⟨rfl, hb⟩
      have HS6 := Lib.hid (HS5.out.after hb)
      clear hb HS5 r0a r0b r0c
      obtain ⟨r0a, r0b, r0c⟩ := HS6.out.rules 0 rfl
      go_wp2_with fail
      refine (fac_nob P n now _ (nob_of HK.out (HS6.out.at_ 1 rfl))).mono ?_
      rintro e W7 ⟨rfl, hb⟩
      have HS7 := Lib.hid (HS6.out.after hb)
      clear hb HS6 r0a r0b r0c
      obtain ⟨r0a, r0b, r0c⟩ := HS7.out.rules 0 rfl
      go_wp2_with fail
      refine (add_nob P n amount now _ (nob_of HK.out (HS7.out.at_ 1 rfl))).mono ?_
      rintro e W8 ⟨rfl, hb⟩
      have HS8 := Lib.hid (HS7.out.after hb)
      clear hb HS7 r0a r0b r0c
      go_wp2_with fail
      refine (users_nob P _ (nob_of HK.out (HS8.out.at_ 1 rfl))).mono ?_
      rintro e W9 ⟨rfl, hb⟩
      have HS9 := Lib.hid (HS8.out.after hb)
      clear hb HS8
      go_wp2_with fail
      refine (save_nob P _ (nob_of HK.out (HS9.out.at_ 1 rfl))).mono ?_
      rintro e W10 ⟨rfl, hb⟩
      have HS10 := Lib.hid (HS9.out.after hb)
      clear hb HS9
      go_wp2_with fail
      refine ⟨⟨k + 1, by omega, by go_num, ?_⟩, by simp [intOf]; omega⟩
      exact Lib.hid (Ms.cut (l := [(.blk g1 24 #[str n, .int .i64 amount, .int .i64 now]), (.blk g2 56 #[.int .i64 0, .map none]), (.blk g3 25 #[.pointer none, .pointer (some ⟨g2, 0, none⟩)])]) (k := []) HS10.out)
    · obtain rfl : k = 2 := by omega
      go_wp2_with fail
      refine (alive_c _).mono ?_
      rintro e W5 ⟨rfl, hb⟩
      have HS5 := Lib.hid (HS4.out.after hb)
      clear hb HS4
      go_wp2_with fail
      go_ret
      exact ⟨rfl, HS5.out.below⟩
end Go.Proofs.Ytflgnlpippjhcaa
