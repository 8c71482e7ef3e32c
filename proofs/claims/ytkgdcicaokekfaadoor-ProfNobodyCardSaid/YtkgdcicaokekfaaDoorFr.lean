/- Prof: a profile that nobody made; ProfNobody. -/
import Derived.Test.YtkgdcicaokekfaaDoorFn
set_option linter.unusedVariables false
namespace Go.Proofs.YtkgdcicaokekfaaDoor
open Go.RowKit Go.Sort

abbrev pf0 : Array Value := #[.int .u64 0, .int .u64 0, .int .u64 0, .int .u64 0, .slice none 0 0]
/-- Nobody's profile: nil, or the zero one. -/
def NoP (P : Value) (W : World) : Prop := P = .pointer none ∨ ∃ g, P = .pointer (some ⟨g, 0, none⟩) ∧ Blk W g 56 pf0
theorem NoP.after {P : Value} {W W' : World} (h : NoP P W) (hb : Below W.heap.size W W') : NoP P W' := by
  rcases h with h | ⟨g, h, hB⟩
  · exact .inl h
  · exact .inr ⟨g, h, hB.after hb⟩
set_option maxRecDepth 100000 in
set_option maxHeartbeats 4000000 in
theorem noOk (P : Value) (w : World) (h : NoP P w) : Calls Tryd.prog 23 #[P] w fun e w' => e = .returned (.bool false) ∧ Below w.heap.size w w' := by
  rcases h with rfl | ⟨g, rfl, hB⟩
  · go_enter Tryd.func23, Tryd.ntmps23
    go_wp2_with fail
    go_ret
    exact ⟨rfl, Below.refl _ _⟩
  · obtain ⟨r1, r2, r3⟩ := hB.rules
    clear hB
    go_enter Tryd.func23, Tryd.ntmps23
    go_wp2_with fail
    go_ret
    exact ⟨rfl, Below.refl _ _⟩
set_option maxRecDepth 100000 in
set_option maxHeartbeats 8000000 in
theorem noSpan (P : Value) (lo hi : Int) (w : World) (h : NoP P w) : Calls Tryd.prog 26 #[P, .int .i64 lo, .int .i64 hi] w fun e w' => e = .returned (.int .i64 2) ∧ Below w.heap.size w w' := by
  have HN := Lib.hid h
  clear h
  go_enter Tryd.func26, Tryd.ntmps26
  have HS0 := Lib.hid (Ms.nil w noB)
  go_wp2_with fail
  refine (noOk P _ (HN.out.after HS0.out.below)).mono ?_
  rintro e W1 ⟨rfl, hb⟩
  have HS1 := Lib.hid (HS0.out.after hb)
  clear hb HS0
  go_wp2_with fail
  go_ret
  exact ⟨rfl, HS1.out.below⟩
set_option maxRecDepth 100000 in
set_option maxHeartbeats 8000000 in
theorem noFree (P : Value) (t : Int) (w : World) (h : NoP P w) : Calls Tryd.prog 20 #[P, .int .i64 t] w fun e w' => e = .returned (.tuple #[.agg z4P, .int .i64 2]) ∧ Below w.heap.size w w' := by
  have HN := Lib.hid h
  clear h
  go_enter Tryd.func20, Tryd.ntmps20
  have HS0 := Lib.hid (Ms.nil w noB)
  go_wp2_with (have hq := HS0; clear hq; (with_reducible refine atAlloc ?_); refine wpList_alloc_b rfl (some 4) rfl 24 (#[.int .u64 0, .int .u64 0, .int .u64 0, .int .u64 0]) (by kernel_rfl) ?_; intro g1 W1 hb hB hg; have HS1 := Lib.hid (HS0.out.new hb hB hg); clear hb hB hg HS0)
  refine (noOk P _ (HN.out.after HS1.out.below)).mono ?_
  rintro e W2 ⟨rfl, hb⟩
  have HS2 := Lib.hid (HS1.out.after hb)
  clear hb HS1
  go_wp2_with (have hq := HS2; clear hq; (with_reducible refine atStore ?_); refine wpList_store_at rfl 24 _ _ rfl (HS2.out.at_ 0 rfl) (.agg #[.int .u64 0, .int .u64 0, .int .u64 0, .int .u64 0]) rfl rfl (by kernel_rfl) (Nat.le_of_ble_eq_true rfl) (by kernel_rfl) ?_; intro W3 hB hP; have HS3 := Lib.hid (HS2.out.put 0 rfl (new := #[.int .u64 0, .int .u64 0, .int .u64 0, .int .u64 0]) hB hP); clear hB hP HS2)
  exact post_cell_tmp (x := .int .i64 2) rfl rfl rfl (HS3.out.at_ 0 rfl) Tryd.underlying24 rfl (by kernel_rfl) rfl ⟨rfl, HS3.out.below⟩
set_option maxRecDepth 100000 in
set_option maxHeartbeats 8000000 in
theorem noDuring (P : Value) (lo hi : Int) (w : World) (h : NoP P w) : Calls Tryd.prog 13 #[P, .int .i64 lo, .int .i64 hi] w fun e w' => e = .returned (.tuple #[.agg z4P, .int .i64 2]) ∧ Below w.heap.size w w' := by
  have HN := Lib.hid h
  clear h
  go_enter Tryd.func13, Tryd.ntmps13
  have HS0 := Lib.hid (Ms.nil w noB)
  go_wp2_with (have hq := HS0; clear hq; (with_reducible refine atAlloc ?_); refine wpList_alloc_b rfl (some 6) rfl 24 (#[.int .u64 0, .int .u64 0, .int .u64 0, .int .u64 0]) (by kernel_rfl) ?_; intro g1 W1 hb hB hg; have HS1 := Lib.hid (HS0.out.new hb hB hg); clear hb hB hg HS0)
  refine (noSpan P lo hi _ (HN.out.after HS1.out.below)).mono ?_
  rintro e W2 ⟨rfl, hb⟩
  have HS2 := Lib.hid (HS1.out.after hb)
  clear hb HS1
  go_wp2_with (have hq := HS2; clear hq; (with_reducible refine atStore ?_); refine wpList_store_at rfl 24 _ _ rfl (HS2.out.at_ 0 rfl) (.agg #[.int .u64 0, .int .u64 0, .int .u64 0, .int .u64 0]) rfl rfl (by kernel_rfl) (Nat.le_of_ble_eq_true rfl) (by kernel_rfl) ?_; intro W3 hB hP; have HS3 := Lib.hid (HS2.out.put 0 rfl (new := #[.int .u64 0, .int .u64 0, .int .u64 0, .int .u64 0]) hB hP); clear hB hP HS2)
  exact post_cell_tmp (x := .int .i64 2) rfl rfl rfl (HS3.out.at_ 0 rfl) Tryd.underlying24 rfl (by kernel_rfl) rfl ⟨rfl, HS3.out.below⟩
set_option maxRecDepth 100000 in
set_option maxHeartbeats 8000000 in
theorem noTake (P : Value) (s : NS) (lo hi : Int) (w : World) (h : NoP P w) : Calls Tryd.prog 19 #[P, nsV s, .int .i64 lo, .int .i64 hi] w fun e w' => e = .returned (.int .i64 2) ∧ Below w.heap.size w w' := by
  have HN := Lib.hid h
  clear h
  go_enter Tryd.func19, Tryd.ntmps19
  have HS0 := Lib.hid (Ms.nil w noB)
  go_wp2_with (have hq := HS0; clear hq; (with_reducible refine atBox ?_); refine wpList_alloc_b rfl (some 5) rfl 24 ((nsA s)) (by kernel_rfl) ?_; intro g1 W1 hb hB hg; have HS1 := Lib.hid (HS0.out.new hb hB hg); clear hb hB hg HS0)
  refine (noDuring P lo hi _ (HN.out.after HS1.out.below)).mono ?_
  rintro e W2 ⟨rfl, hb⟩
  have HS2 := Lib.hid (HS1.out.after hb)
  clear hb HS1
  go_wp2_with (first
    | (have hq := HS2; clear hq; (with_reducible refine atAlloc ?_); refine wpList_alloc_b rfl (some 9) rfl 24 (#[.int .u64 0, .int .u64 0, .int .u64 0, .int .u64 0]) (by kernel_rfl) ?_; intro g3 W3 hb hB hg; have HS3 := Lib.hid (HS2.out.new hb hB hg); clear hb hB hg HS2)
    | (have hq := HS3; clear hq; (with_reducible refine atStore ?_); refine wpList_store_at rfl 24 _ _ rfl (HS3.out.at_ 1 rfl) (.agg #[.int .u64 0, .int .u64 0, .int .u64 0, .int .u64 0]) rfl rfl (by kernel_rfl) (Nat.le_of_ble_eq_true rfl) (by kernel_rfl) ?_; intro W4 hB hP; have HS4 := Lib.hid (HS3.out.put 1 rfl (new := #[.int .u64 0, .int .u64 0, .int .u64 0, .int .u64 0]) hB hP); clear hB hP HS3))
  go_ret
  exact ⟨rfl, HS4.out.below⟩
set_option maxRecDepth 100000 in
set_option maxHeartbeats 8000000 in
theorem noGive (P : Value) (s : NS) (lo hi : Int) (w : World) (h : NoP P w) : Calls Tryd.prog 22 #[P, nsV s, .int .i64 lo, .int .i64 hi] w fun e w' => e = .returned (.int .i64 2) ∧ Below w.heap.size w w' := by
  have HN := Lib.hid h
  clear h
  go_enter Tryd.func22, Tryd.ntmps22
  have HS0 := Lib.hid (Ms.nil w noB)
  go_wp2_with (have hq := HS0; clear hq; (with_reducible refine atBox ?_); refine wpList_alloc_b rfl (some 5) rfl 24 ((nsA s)) (by kernel_rfl) ?_; intro g1 W1 hb hB hg; have HS1 := Lib.hid (HS0.out.new hb hB hg); clear hb hB hg HS0)
  refine (noSpan P lo hi _ (HN.out.after HS1.out.below)).mono ?_
  rintro e W2 ⟨rfl, hb⟩
  have HS2 := Lib.hid (HS1.out.after hb)
  clear hb HS1
  go_wp2_with fail
  go_ret
  exact ⟨rfl, HS2.out.below⟩
set_option maxRecDepth 100000 in
set_option maxHeartbeats 8000000 in
theorem noEarliest (P : Value) (n long lo : Int) (of : NS) (w : World) (h : NoP P w) : Calls Tryd.prog 11 #[P, .int .i64 n, .int .i64 long, .int .i64 lo, nsV of] w fun e w' => e = .returned (.tuple #[.int .i64 0, .agg z4P, .int .i64 2]) ∧ Below w.heap.size w w' := by
  have HN := Lib.hid h
  clear h
  go_enter Tryd.func11, Tryd.ntmps11
  have HS0 := Lib.hid (Ms.nil w noB)
  go_wp2_with (first
    | (have hq := HS0; clear hq; (with_reducible refine atBox ?_); refine wpList_alloc_b rfl (some 9) rfl 24 ((nsA of)) (by kernel_rfl) ?_; intro g1 W1 hb hB hg; have HS1 := Lib.hid (HS0.out.new hb hB hg); clear hb hB hg HS0)
    | (have hq := HS1; clear hq; (with_reducible refine atAlloc ?_); refine wpList_alloc_b rfl (some 11) rfl 24 (#[.int .u64 0, .int .u64 0, .int .u64 0, .int .u64 0]) (by kernel_rfl) ?_; intro g2 W2 hb hB hg; have HS2 := Lib.hid (HS1.out.new hb hB hg); clear hb hB hg HS1))
  refine (noOk P _ (HN.out.after HS2.out.below)).mono ?_
  rintro e W3 ⟨rfl, hb⟩
  have HS3 := Lib.hid (HS2.out.after hb)
  clear hb HS2
  go_wp2_with (have hq := HS3; clear hq; (with_reducible refine atStore ?_); refine wpList_store_at rfl 24 _ _ rfl (HS3.out.at_ 1 rfl) (.agg #[.int .u64 0, .int .u64 0, .int .u64 0, .int .u64 0]) rfl rfl (by kernel_rfl) (Nat.le_of_ble_eq_true rfl) (by kernel_rfl) ?_; intro W4 hB hP; have HS4 := Lib.hid (HS3.out.put 1 rfl (new := #[.int .u64 0, .int .u64 0, .int .u64 0, .int .u64 0]) hB hP); clear hB hP HS3)
  exact post_tmp_cell_tmp (x := .int .i64 2) (y := .int .i64 0) rfl rfl rfl rfl (HS4.out.at_ 1 rfl) Tryd.underlying24 rfl (by kernel_rfl) rfl ⟨rfl, HS4.out.below⟩
set_option maxRecDepth 100000 in
set_option maxHeartbeats 8000000 in
theorem noSteps (P : Value) (w : World) (h : NoP P w) : Calls Tryd.prog 17 #[P] w fun e w' => e = .returned (.slice none 0 0) ∧ Below w.heap.size w w' := by
  have HN := Lib.hid h
  clear h
  go_enter Tryd.func17, Tryd.ntmps17
  have HS0 := Lib.hid (Ms.nil w noB)
  go_wp2_with fail
  refine (noOk P _ (HN.out.after HS0.out.below)).mono ?_
  rintro e W1 ⟨rfl, hb⟩
  have HS1 := Lib.hid (HS0.out.after hb)
  clear hb HS0
  go_wp2_with fail
  go_ret
  exact ⟨rfl, HS1.out.below⟩
set_option maxRecDepth 100000 in
set_option maxHeartbeats 8000000 in
theorem noCopy (P : Value) (w : World) (h : NoP P w) : Calls Tryd.prog 18 #[P] w fun e w' => e = .returned (.pointer none) ∧ Below w.heap.size w w' := by
  have HN := Lib.hid h
  clear h
  go_enter Tryd.func18, Tryd.ntmps18
  have HS0 := Lib.hid (Ms.nil w noB)
  go_wp2_with fail
  refine (noOk P _ (HN.out.after HS0.out.below)).mono ?_
  rintro e W1 ⟨rfl, hb⟩
  have HS1 := Lib.hid (HS0.out.after hb)
  clear hb HS0
  go_wp2_with fail
  go_ret
  exact ⟨rfl, HS1.out.below⟩
set_option maxRecDepth 100000 in
set_option maxHeartbeats 8000000 in
theorem noDoes (P : Value) (a : Ak) (w : World) (h : NoP P w) : Calls Tryd.prog 10 #[P, akV a] w fun e w' => e = .returned (.int .i64 2) ∧ Below w.heap.size w w' := by
  have HN := Lib.hid h
  obtain ⟨gv, s, lo, hi⟩ := a
  clear h
  cases gv
  · go_enter Tryd.func10, Tryd.ntmps10
    have HS0 := Lib.hid (Ms.nil w noB)
    go_wp2_with (first
      | (have hq := HS0; clear hq; (with_reducible refine atBox ?_); refine wpList_alloc_b rfl (some 3) rfl 27 (#[.bool false, .int .u64 (wn s 0 : Nat), .int .u64 (wn s 1 : Nat), .int .u64 (wn s 2 : Nat), .int .u64 (wn s 3 : Nat), .int .i64 lo, .int .i64 hi]) (by kernel_rfl) ?_; intro g1 W1 hb hB hg; have HS1 := Lib.hid (HS0.out.new hb hB hg); clear hb hB hg HS0; obtain ⟨r0a, r0b, r0c⟩ := HS1.out.rules 0 rfl)
      | (have hq := HS1; clear hq; (with_reducible refine atLoad ?_); refine wpList_load_at rfl 24 _ rfl (HS1.out.at_ 0 rfl) 4 (.agg #[.int .u64 (wn s 0 : Nat), .int .u64 (wn s 1 : Nat), .int .u64 (wn s 2 : Nat), .int .u64 (wn s 3 : Nat)]) rfl _ Tryd.underlying24 rfl (by kernel_rfl) (Nat.le_of_ble_eq_true rfl) rfl ?_))
    refine (noTake P s lo hi _ (HN.out.after HS1.out.below)).mono ?_
    rintro e W2 ⟨rfl, hb⟩
    have HS2 := Lib.hid (HS1.out.after hb)
    clear hb HS1 r0a r0b r0c
    go_wp2_with fail
    go_ret
    exact ⟨rfl, HS2.out.below⟩
  · go_enter Tryd.func10, Tryd.ntmps10
    have HS0 := Lib.hid (Ms.nil w noB)
    go_wp2_with (first
      | (have hq := HS0; clear hq; (with_reducible refine atBox ?_); refine wpList_alloc_b rfl (some 3) rfl 27 (#[.bool true, .int .u64 (wn s 0 : Nat), .int .u64 (wn s 1 : Nat), .int .u64 (wn s 2 : Nat), .int .u64 (wn s 3 : Nat), .int .i64 lo, .int .i64 hi]) (by kernel_rfl) ?_; intro g1 W1 hb hB hg; have HS1 := Lib.hid (HS0.out.new hb hB hg); clear hb hB hg HS0; obtain ⟨r0a, r0b, r0c⟩ := HS1.out.rules 0 rfl)
      | (have hq := HS1; clear hq; (with_reducible refine atLoad ?_); refine wpList_load_at rfl 24 _ rfl (HS1.out.at_ 0 rfl) 4 (.agg #[.int .u64 (wn s 0 : Nat), .int .u64 (wn s 1 : Nat), .int .u64 (wn s 2 : Nat), .int .u64 (wn s 3 : Nat)]) rfl _ Tryd.underlying24 rfl (by kernel_rfl) (Nat.le_of_ble_eq_true rfl) rfl ?_))
    refine (noGive P s lo hi _ (HN.out.after HS1.out.below)).mono ?_
    rintro e W2 ⟨rfl, hb⟩
    have HS2 := Lib.hid (HS1.out.after hb)
    clear hb HS1 r0a r0b r0c
    go_wp2_with fail
    go_ret
    exact ⟨rfl, HS2.out.below⟩
theorem noP_of {P : Value} {g : Nat} {W : World} (h : P = .pointer none ∨ P = .pointer (some ⟨g, 0, none⟩)) (hB : Blk W g 56 pf0) : NoP P W := h.imp id (fun h => ⟨g, h, hB⟩)
set_option maxRecDepth 100000 in
set_option maxHeartbeats 16000000 in
theorem profNobody_w (a : Ak) (qn long lo : Int) (of : NS) (w : World) (hT : TabW w) :
    Calls Tryd.prog 7 #[akV a, .agg #[.int .i64 qn, .int .i64 long, .int .i64 lo, .int .u64 (wn of 0 : Nat), .int .u64 (wn of 1 : Nat), .int .u64 (wn of 2 : Nat), .int .u64 (wn of 3 : Nat)]] w fun e w' => e = .returned (.bool true) ∧ Below w.heap.size w w' := by
  have HTab := Lib.hid hT
  clear hT
  go_enter Tryd.func7, Tryd.ntmps7
  have HS0 := Lib.hid (Ms.nil w noB)
  go_wp2_with (first
    | (have hq := HS0; clear hq; (with_reducible refine atBox ?_); refine wpList_alloc_b rfl (some 2) rfl 27 ((akA a)) (by kernel_rfl) ?_; intro g1 W1 hb hB hg; have HS1 := Lib.hid (HS0.out.new hb hB hg); clear hb hB hg HS0)
    | (have hq := HS1; clear hq; (with_reducible refine atBox ?_); refine wpList_alloc_b rfl (some 3) rfl 29 (#[.int .i64 qn, .int .i64 long, .int .i64 lo, .int .u64 (wn of 0 : Nat), .int .u64 (wn of 1 : Nat), .int .u64 (wn of 2 : Nat), .int .u64 (wn of 3 : Nat)]) (by kernel_rfl) ?_; intro g2 W2 hb hB hg; have HS2 := Lib.hid (HS1.out.new hb hB hg); clear hb hB hg HS1)
    | (have hq := HS2; clear hq; (with_reducible refine atBox ?_); refine wpList_alloc_b rfl (some 15) rfl 56 (#[.int .u64 0, .int .u64 0, .int .u64 0, .int .u64 0, .slice none 0 0]) (by kernel_rfl) ?_; intro g3 W3 hb hB hg; have HS3 := Lib.hid (HS2.out.new hb hB hg); clear hb hB hg HS2)
    | (have hq := HS3; clear hq; (with_reducible refine atBuild ?_); refine wpList_build_b rfl (some 16) rfl 32 2 (#[.pointer none, .pointer (some ⟨g3, 0, none⟩)]) (by kernel_rfl) ?_; intro g4 W4 hb hB hg; have HS4 := Lib.hid (HS3.out.new hb hB hg); clear hb hB hg HS3))
  go_loopw [18] (fun k wr => ∃ kk : Nat, kk ≤ 2 ∧ k = .int .i64 (kk : Nat) ∧ Hid (Ms w noB [(.blk g1 27 (akA a)), (.blk g2 29 #[.int .i64 qn, .int .i64 long, .int .i64 lo, .int .u64 (wn of 0 : Nat), .int .u64 (wn of 1 : Nat), .int .u64 (wn of 2 : Nat), .int .u64 (wn of 3 : Nat)]), (.blk g3 56 #[.int .u64 0, .int .u64 0, .int .u64 0, .int .u64 0, .slice none 0 0]), (.blk g4 32 #[.pointer none, .pointer (some ⟨g3, 0, none⟩)])] wr)) (fun k _ => 2 - (intOf k).toNat)
  case atStart => exact ⟨0, by omega, rfl, HS4⟩
  case round =>
    obtain ⟨k, hk2, rfl, HS5⟩ := hrel
    by_cases hlt : k < 2
    · have hltI : (k : Int) < 2 := by omega
      obtain ⟨P, hc, hP⟩ : ∃ P, wr.cell? ⟨g4, k, none⟩ = some P ∧ (P = .pointer none ∨ P = .pointer (some ⟨g3, 0, none⟩)) := by
        have h1 := (HS5.out.rules 3 rfl).1
        rcases (show k = 0 ∨ k = 1 by omega) with rfl | rfl
        · exact ⟨_, h1 0, .inl rfl⟩
        · exact ⟨_, h1 1, .inr rfl⟩
      have HK := Lib.hid hP
      clear hP
      obtain ⟨r3a, r3b, r3c⟩ := HS5.out.rules 3 rfl
      go_wp2_with fail
      refine (noFree P 5 _ (noP_of HK.out (HS5.out.at_ 2 rfl))).mono ?_
      rintro e W6 ⟨rfl, hb⟩
      have HS6 := Lib.hid (HS5.out.after hb)
      clear hb HS5 r3a r3b r3c
      clear hc
      go_wp2_with (first
        | (have hq := HS6; clear hq; (with_reducible refine atAlloc ?_); refine wpList_alloc_b rfl (some 7) rfl 24 (#[.int .u64 0, .int .u64 0, .int .u64 0, .int .u64 0]) (by kernel_rfl) ?_; intro g7 W7 hb hB hg; have HS7 := Lib.hid (HS6.out.new hb hB hg); clear hb hB hg HS6)
        | (have hq := HS7; clear hq; (with_reducible refine atStore ?_); refine wpList_store_at rfl 24 _ _ rfl (HS7.out.at_ 4 rfl) (.agg #[.int .u64 0, .int .u64 0, .int .u64 0, .int .u64 0]) rfl rfl (by kernel_rfl) (Nat.le_of_ble_eq_true rfl) (by kernel_rfl) ?_; intro W8 hB hP; have HS8 := Lib.hid (HS7.out.put 4 rfl (new := #[.int .u64 0, .int .u64 0, .int .u64 0, .int .u64 0]) hB hP); clear hB hP HS7))
      refine (noDuring P 1 2 _ (noP_of HK.out (HS8.out.at_ 2 rfl))).mono ?_
      rintro e W9 ⟨rfl, hb⟩
      have HS9 := Lib.hid (HS8.out.after hb)
      clear hb HS8
      go_wp2_with (first
        | (have hq := HS9; clear hq; (with_reducible refine atAlloc ?_); refine wpList_alloc_b rfl (some 9) rfl 24 (#[.int .u64 0, .int .u64 0, .int .u64 0, .int .u64 0]) (by kernel_rfl) ?_; intro g10 W10 hb hB hg; have HS10 := Lib.hid (HS9.out.new hb hB hg); clear hb hB hg HS9)
        | (have hq := HS10; clear hq; (with_reducible refine atStore ?_); refine wpList_store_at rfl 24 _ _ rfl (HS10.out.at_ 5 rfl) (.agg #[.int .u64 0, .int .u64 0, .int .u64 0, .int .u64 0]) rfl rfl (by kernel_rfl) (Nat.le_of_ble_eq_true rfl) (by kernel_rfl) ?_; intro W11 hB hP; have HS11 := Lib.hid (HS10.out.put 5 rfl (new := #[.int .u64 0, .int .u64 0, .int .u64 0, .int .u64 0]) hB hP); clear hB hP HS10; obtain ⟨r1a, r1b, r1c⟩ := HS11.out.rules 1 rfl)
        | (have hq := HS11; clear hq; (with_reducible refine atLoad ?_); refine wpList_load_at rfl 24 _ rfl (HS11.out.at_ 1 rfl) 4 (.agg #[.int .u64 (wn of 0 : Nat), .int .u64 (wn of 1 : Nat), .int .u64 (wn of 2 : Nat), .int .u64 (wn of 3 : Nat)]) rfl _ Tryd.underlying24 rfl (by kernel_rfl) (Nat.le_of_ble_eq_true rfl) rfl ?_))
      refine (noEarliest P qn long lo of _ (noP_of HK.out (HS11.out.at_ 2 rfl))).mono ?_
      rintro e W12 ⟨rfl, hb⟩
      have HS12 := Lib.hid (HS11.out.after hb)
      clear hb HS11 r1a r1b r1c
      go_wp2_with (first
        | (have hq := HS12; clear hq; (with_reducible refine atAlloc ?_); refine wpList_alloc_b rfl (some 12) rfl 24 (#[.int .u64 0, .int .u64 0, .int .u64 0, .int .u64 0]) (by kernel_rfl) ?_; intro g13 W13 hb hB hg; have HS13 := Lib.hid (HS12.out.new hb hB hg); clear hb hB hg HS12)
        | (have hq := HS13; clear hq; (with_reducible refine atStore ?_); refine wpList_store_at rfl 24 _ _ rfl (HS13.out.at_ 6 rfl) (.agg #[.int .u64 0, .int .u64 0, .int .u64 0, .int .u64 0]) rfl rfl (by kernel_rfl) (Nat.le_of_ble_eq_true rfl) (by kernel_rfl) ?_; intro W14 hB hP; have HS14 := Lib.hid (HS13.out.put 6 rfl (new := #[.int .u64 0, .int .u64 0, .int .u64 0, .int .u64 0]) hB hP); clear hB hP HS13)
        | (have hq := HS14; clear hq; (with_reducible refine atLoad ?_); refine wpList_load_at rfl 27 _ rfl (HS14.out.at_ 0 rfl) 7 (akV a) rfl _ Tryd.underlying27 rfl (by kernel_rfl) (Nat.le_of_ble_eq_true rfl) rfl ?_))
      refine (noDoes P a _ (noP_of HK.out (HS14.out.at_ 2 rfl))).mono ?_
      rintro e W15 ⟨rfl, hb⟩
      have HS15 := Lib.hid (HS14.out.after hb)
      clear hb HS14
      go_wp2_with fail
      refine (noSteps P _ (noP_of HK.out (HS15.out.at_ 2 rfl))).mono ?_
      rintro e W16 ⟨rfl, hb⟩
      have HS16 := Lib.hid (HS15.out.after hb)
      clear hb HS15
      go_wp2_with fail
      refine (noCopy P _ (noP_of HK.out (HS16.out.at_ 2 rfl))).mono ?_
      rintro e W17 ⟨rfl, hb⟩
      have HS17 := Lib.hid (HS16.out.after hb)
      clear hb HS16
      go_wp2_with fail
      refine ⟨⟨k + 1, by omega, by go_num, ?_⟩, by simp [intOf]; omega⟩
      exact Lib.hid (Ms.cut (l := [(.blk g1 27 (akA a)), (.blk g2 29 #[.int .i64 qn, .int .i64 long, .int .i64 lo, .int .u64 (wn of 0 : Nat), .int .u64 (wn of 1 : Nat), .int .u64 (wn of 2 : Nat), .int .u64 (wn of 3 : Nat)]), (.blk g3 56 #[.int .u64 0, .int .u64 0, .int .u64 0, .int .u64 0, .slice none 0 0]), (.blk g4 32 #[.pointer none, .pointer (some ⟨g3, 0, none⟩)])]) (k := [(.blk g7 24 #[.int .u64 0, .int .u64 0, .int .u64 0, .int .u64 0]), (.blk g10 24 #[.int .u64 0, .int .u64 0, .int .u64 0, .int .u64 0]), (.blk g13 24 #[.int .u64 0, .int .u64 0, .int .u64 0, .int .u64 0])]) HS17.out)
    · obtain rfl : k = 2 := by omega
      go_wp2_with fail
      refine (alive_c _ (HTab.out.after HS5.out.below)).mono ?_
      rintro e W6 ⟨rfl, hb⟩
      have HS6 := Lib.hid (HS5.out.after hb)
      clear hb HS5
      go_wp2_with fail
      go_ret
      exact ⟨rfl, HS6.out.below⟩
end Go.Proofs.YtkgdcicaokekfaaDoor
