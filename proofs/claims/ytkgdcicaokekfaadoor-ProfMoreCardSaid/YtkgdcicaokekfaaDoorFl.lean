/- Prof: ProfMore. -/
import Derived.Test.YtkgdcicaokekfaaDoorFk
set_option linter.unusedVariables false
namespace Go.Proofs.YtkgdcicaokekfaaDoor
open Go.RowKit Go.Sort

set_option maxRecDepth 100000 in
set_option maxHeartbeats 32000000 in
theorem profMore_w (nodes : NS) (A : Option Addr) (n c : Nat) (acts : List Ak) (a : Ak) (qn long lo : Int) (of : NS) (w : World) (hA : ReadsAk w A n c acts) (hT : TabW w) :
    Calls Tryd.prog 3 #[nsV nodes, .slice A n c, .agg #[.bool a.give, .int .u64 (wn a.s 0 : Nat), .int .u64 (wn a.s 1 : Nat), .int .u64 (wn a.s 2 : Nat), .int .u64 (wn a.s 3 : Nat), .int .i64 a.lo, .int .i64 a.hi, .int .i64 qn, .int .i64 long, .int .i64 lo, .int .u64 (wn of 0 : Nat), .int .u64 (wn of 1 : Nat), .int .u64 (wn of 2 : Nat), .int .u64 (wn of 3 : Nat)]] w fun e w' => e = .returned (.bool true) ∧ Below w.heap.size w w' := by
  have HA := Lib.hid hA
  have HTab := Lib.hid hT
  have hnI : (n : Int) ≤ 9223372036854775807 := by have := hA.2.1; have := hA.2.2.1; omega
  have H14 := Lib.hid (show min n 14 ≤ n by omega)
  clear hA hT
  go_enter Tryd.func3, Tryd.ntmps3
  have HS0 := Lib.hid (Ms.nil w noB)
  go_wp2_with (first
    | (have hq := HS0; clear hq; (with_reducible refine atBox ?_); refine wpList_alloc_b rfl (some 3) rfl 24 ((nsA nodes)) (by kernel_rfl) ?_; intro g1 W1 hb hB hg; have HS1 := Lib.hid (HS0.out.new hb hB hg); clear hb hB hg HS0)
    | (have hq := HS1; clear hq; (with_reducible refine atBox ?_); refine wpList_alloc_b rfl (some 5) rfl 31 (#[.bool a.give, .int .u64 (wn a.s 0 : Nat), .int .u64 (wn a.s 1 : Nat), .int .u64 (wn a.s 2 : Nat), .int .u64 (wn a.s 3 : Nat), .int .i64 a.lo, .int .i64 a.hi, .int .i64 qn, .int .i64 long, .int .i64 lo, .int .u64 (wn of 0 : Nat), .int .u64 (wn of 1 : Nat), .int .u64 (wn of 2 : Nat), .int .u64 (wn of 3 : Nat)]) (by kernel_rfl) ?_; intro g2 W2 hb hB hg; have HS2 := Lib.hid (HS1.out.new hb hB hg); clear hb hB hg HS1)
    | (have hq := HS2; clear hq; (with_reducible refine atLoad ?_); refine wpList_load_at rfl 24 _ rfl (HS2.out.at_ 0 rfl) 4 (nsV nodes) rfl _ Tryd.underlying24 rfl (by kernel_rfl) (Nat.le_of_ble_eq_true rfl) rfl ?_))
  refine (new_f nodes _).mono ?_
  rintro e W3 ⟨p3, rfl, A3, c3, hM⟩
  have HS3 := Lib.hid (HS2.out.made hM)
  clear hM HS2
  go_wp2_with fail
  have HG3 := Lib.hid (good_one nodes)
  go_wp2_with fail
  refine (short_pc A n c acts _ (HA.out.below HS3.out.below)).mono ?_
  rintro e w' ⟨rfl, rfl⟩
  go_wp2_with fail
  obtain ⟨p, hp⟩ : ∃ p, p = p3 := ⟨_, rfl⟩
  rw [← hp] at HS3 ⊢
  clear hp
  go_loopw [31] (fun k wr => ∃ (kk : Nat) (A2 : Option Addr) (c2 : Nat) (l : List (Sp NS)), kk ≤ min n 14 ∧ k = .int .i64 (kk : Nat) ∧ Hid (Good l) ∧ Hid (Ms w noB [(.blk g1 24 (nsA nodes)), (.blk g2 31 #[.bool a.give, .int .u64 (wn a.s 0 : Nat), .int .u64 (wn a.s 1 : Nat), .int .u64 (wn a.s 2 : Nat), .int .u64 (wn a.s 3 : Nat), .int .i64 a.lo, .int .i64 a.hi, .int .i64 qn, .int .i64 long, .int .i64 lo, .int .u64 (wn of 0 : Nat), .int .u64 (wn of 1 : Nat), .int .u64 (wn of 2 : Nat), .int .u64 (wn of 3 : Nat)]), .pf p nodes A2 c2 l] wr)) (fun k _ => min n 14 - (intOf k).toNat)
  case atStart => exact ⟨0, _, _, _, by omega, rfl, HG3, HS3⟩
  case round =>
    obtain ⟨k, A2, c2, l, hkm, rfl, HG, HS4⟩ := hrel
    have hkI : (k : Int) ≤ ((min n 14 : Nat) : Int) := by omega
    by_cases hlt : k < min n 14
    · have hltI : (k : Int) < ((min n 14 : Nat) : Int) := by omega
      obtain ⟨ad, rfl, hc⟩ := HA.out.2.2.2 (by omega)
      obtain ⟨x, hx⟩ : ∃ x, acts[k]? = some x := ⟨_, List.getElem?_eq_getElem (by have := HA.out.1; omega)⟩
      have HC := Lib.hid (fun j v hv => (HS4.out.below.cell (block_lt_of_cell (hc k x hx j v hv))).trans (hc k x hx j v hv))
      clear hc hx
      go_wp2_with (first
        | (have hq := HC; clear hq; refine wpList_load_ad (by kernel_rfl) 27 _ rfl (ad.add (k * 7)) (akL x) HC.out rfl _ (akV x) rfl Tryd.underlying27 rfl (by kernel_rfl) ?_; clear HC)
        | (have hq := HS4; clear hq; (with_reducible refine atAlloc ?_); refine wpList_alloc_b rfl (some 10) rfl 27 (#[.bool false, .int .u64 0, .int .u64 0, .int .u64 0, .int .u64 0, .int .i64 0, .int .i64 0]) (by kernel_rfl) ?_; intro g5 W5 hb hB hg; have HS5 := Lib.hid (HS4.out.new hb hB hg); clear hb hB hg HS4)
        | (have hq := HS5; clear hq; (with_reducible refine atStore ?_); refine wpList_store_at rfl 27 _ _ rfl (HS5.out.at_ 3 rfl) (akV x) rfl rfl (by kernel_rfl) (Nat.le_of_ble_eq_true rfl) (by kernel_rfl) ?_; intro W6 hB hP; have HS6 := Lib.hid (HS5.out.put 3 rfl (new := (akA x)) hB hP); clear hB hP HS5)
        | (have hq := HS6; clear hq; (with_reducible refine atLoad ?_); refine wpList_load_at rfl 27 _ rfl (HS6.out.at_ 3 rfl) 7 (akV x) rfl _ Tryd.underlying27 rfl (by kernel_rfl) (Nat.le_of_ble_eq_true rfl) rfl ?_))
      refine (does_f p nodes A2 c2 l x _ HG.out (HS6.out.ok 2 _ rfl)).mono ?_
      rintro e W7 ⟨v, l2, rfl, hv, hl, A7, c7, hM⟩
      have HS7 := Lib.hid (HS6.out.call 2 rfl hM)
      clear hM HS6
      have HG2 := Lib.hid (hl ▸ HG.out.does : Good l2)
      clear hv hl
      go_wp2_with fail
      refine ⟨⟨k + 1, A7, c7, l2, by omega, by go_num, HG2, ?_⟩, by simp [intOf]; omega⟩
      exact Lib.hid (Ms.cut (l := [(.blk g1 24 (nsA nodes)), (.blk g2 31 #[.bool a.give, .int .u64 (wn a.s 0 : Nat), .int .u64 (wn a.s 1 : Nat), .int .u64 (wn a.s 2 : Nat), .int .u64 (wn a.s 3 : Nat), .int .i64 a.lo, .int .i64 a.hi, .int .i64 qn, .int .i64 long, .int .i64 lo, .int .u64 (wn of 0 : Nat), .int .u64 (wn of 1 : Nat), .int .u64 (wn of 2 : Nat), .int .u64 (wn of 3 : Nat)]), .pf p nodes A7 c7 l2]) (k := [(.blk g5 27 (akA x))]) HS7.out)
    · obtain rfl : k = min n 14 := by omega
      obtain ⟨r1a, r1b, r1c⟩ := HS4.out.rules 1 rfl
      go_wp2_with (have hq := HS4; clear hq; (with_reducible refine atLoad ?_); refine wpList_load_at rfl 24 _ rfl (HS4.out.at_ 1 rfl) 4 (.agg #[.int .u64 (wn of 0 : Nat), .int .u64 (wn of 1 : Nat), .int .u64 (wn of 2 : Nat), .int .u64 (wn of 3 : Nat)]) rfl _ Tryd.underlying24 rfl (by kernel_rfl) (Nat.le_of_ble_eq_true rfl) rfl ?_)
      refine (early_f p nodes _ _ l qn long lo of _ HG.out (HS4.out.ok 2 _ rfl) (HTab.out.after HS4.out.below)).mono ?_
      rintro e W5 ⟨⟨t1, F1, f1, rfl, hR⟩, hb⟩
      have HS5 := Lib.hid (HS4.out.after hb)
      clear hb HS4 r1a r1b r1c
      have HR1 := Lib.hid hR
      clear hR
      by_cases hf : f1 = 0
      · subst hf
        have HE := Lib.hid (earl_at HR1.out rfl)
        go_wp2_with (first
          | (have hq := HS5; clear hq; (with_reducible refine atAlloc ?_); refine wpList_alloc_b rfl (some 12) rfl 24 (#[.int .u64 0, .int .u64 0, .int .u64 0, .int .u64 0]) (by kernel_rfl) ?_; intro g6 W6 hb hB hg; have HS6 := Lib.hid (HS5.out.new hb hB hg); clear hb hB hg HS5)
          | (have hq := HS6; clear hq; (with_reducible refine atStore ?_); refine wpList_store_at rfl 24 _ _ rfl (HS6.out.at_ 3 rfl) (nsV F1) rfl rfl (by kernel_rfl) (Nat.le_of_ble_eq_true rfl) (by kernel_rfl) ?_; intro W7 hB hP; have HS7 := Lib.hid (HS6.out.put 3 rfl (new := (nsA F1)) hB hP); clear hB hP HS6)
          | (have hq := HS7; clear hq; refine wpList_load_g (by kernel_rfl) 27 _ rfl (HS7.out.at_ 1 rfl) 7 (.agg #[.bool a.give, .int .u64 (wn a.s 0 : Nat), .int .u64 (wn a.s 1 : Nat), .int .u64 (wn a.s 2 : Nat), .int .u64 (wn a.s 3 : Nat), .int .i64 a.lo, .int .i64 a.hi]) rfl _ Tryd.underlying27 rfl (by kernel_rfl) (Nat.le_of_ble_eq_true rfl) rfl ?_))
        refine (does_f p nodes _ _ l a _ HG.out (HS7.out.ok 2 _ rfl)).mono ?_
        rintro e W8 ⟨v, l2, rfl, hv, hl, A8, c8, hM⟩
        have HS8 := Lib.hid (HS7.out.call 2 rfl hM)
        clear hM HS7
        have HG2 := Lib.hid (hl ▸ HG.out.does : Good l2)
        have HL2 := Lib.hid hl
        have HV2 := Lib.hid hv
        clear hv hl
        by_cases hv : v = 0
        · subst hv
          obtain ⟨r1a, r1b, r1c⟩ := HS8.out.rules 1 rfl
          go_wp2_with (have hq := HS8; clear hq; (with_reducible refine atLoad ?_); refine wpList_load_at rfl 24 _ rfl (HS8.out.at_ 1 rfl) 4 (.agg #[.int .u64 (wn of 0 : Nat), .int .u64 (wn of 1 : Nat), .int .u64 (wn of 2 : Nat), .int .u64 (wn of 3 : Nat)]) rfl _ Tryd.underlying24 rfl (by kernel_rfl) (Nat.le_of_ble_eq_true rfl) rfl ?_)
          refine (early_f p nodes _ _ l2 qn long lo of _ HG2.out (HS8.out.ok 2 _ rfl) (HTab.out.after HS8.out.below)).mono ?_
          rintro e W9 ⟨⟨t2, F2, f2, rfl, hR⟩, hb⟩
          have HS9 := Lib.hid (HS8.out.after hb)
          clear hb HS8 r1a r1b r1c
          have HR2 := Lib.hid hR
          clear hR
          rw [HL2.out] at HR2
          by_cases hgv : a.give = true
          · obtain ⟨hf2, hle⟩ := more_give HG.out hgv HV2.out.symm HE.out.1 HE.out.2 HR2.out
            subst hf2
            go_wp2_with (first
              | (have hq := HS9; clear hq; (with_reducible refine atAlloc ?_); refine wpList_alloc_b rfl (some 15) rfl 24 (#[.int .u64 0, .int .u64 0, .int .u64 0, .int .u64 0]) (by kernel_rfl) ?_; intro g10 W10 hb hB hg; have HS10 := Lib.hid (HS9.out.new hb hB hg); clear hb hB hg HS9)
              | (have hq := HS10; clear hq; (with_reducible refine atStore ?_); refine wpList_store_at rfl 24 _ _ rfl (HS10.out.at_ 4 rfl) (nsV F2) rfl rfl (by kernel_rfl) (Nat.le_of_ble_eq_true rfl) (by kernel_rfl) ?_; intro W11 hB hP; have HS11 := Lib.hid (HS10.out.put 4 rfl (new := (nsA F2)) hB hP); clear hB hP HS10; obtain ⟨r1a, r1b, r1c⟩ := HS11.out.rules 1 rfl))
            refine (alive_c _ (HTab.out.after HS11.out.below)).mono ?_
            rintro e W12 ⟨rfl, hb⟩
            have HS12 := Lib.hid (HS11.out.after hb)
            clear hb HS11 r1a r1b r1c
            go_wp2_with fail
            go_ret
            exact ⟨rfl, HS12.out.below⟩
          · have hgf : a.give = false := by simpa using hgv
            rcases more_take HG.out hgf HV2.out.symm HE.out.1 HE.out.2 HR2.out with hf2 | ⟨hf2, hle⟩
            · subst hf2
              go_wp2_with (first
                | (have hq := HS9; clear hq; (with_reducible refine atAlloc ?_); refine wpList_alloc_b rfl (some 15) rfl 24 (#[.int .u64 0, .int .u64 0, .int .u64 0, .int .u64 0]) (by kernel_rfl) ?_; intro g10 W10 hb hB hg; have HS10 := Lib.hid (HS9.out.new hb hB hg); clear hb hB hg HS9)
                | (have hq := HS10; clear hq; (with_reducible refine atStore ?_); refine wpList_store_at rfl 24 _ _ rfl (HS10.out.at_ 4 rfl) (nsV F2) rfl rfl (by kernel_rfl) (Nat.le_of_ble_eq_true rfl) (by kernel_rfl) ?_; intro W11 hB hP; have HS11 := Lib.hid (HS10.out.put 4 rfl (new := (nsA F2)) hB hP); clear hB hP HS10; obtain ⟨r1a, r1b, r1c⟩ := HS11.out.rules 1 rfl))
              refine (alive_c _ (HTab.out.after HS11.out.below)).mono ?_
              rintro e W12 ⟨rfl, hb⟩
              have HS12 := Lib.hid (HS11.out.after hb)
              clear hb HS11 r1a r1b r1c
              go_wp2_with fail
              go_ret
              exact ⟨rfl, HS12.out.below⟩
            · subst hf2
              go_wp2_with (first
                | (have hq := HS9; clear hq; (with_reducible refine atAlloc ?_); refine wpList_alloc_b rfl (some 15) rfl 24 (#[.int .u64 0, .int .u64 0, .int .u64 0, .int .u64 0]) (by kernel_rfl) ?_; intro g10 W10 hb hB hg; have HS10 := Lib.hid (HS9.out.new hb hB hg); clear hb hB hg HS9)
                | (have hq := HS10; clear hq; (with_reducible refine atStore ?_); refine wpList_store_at rfl 24 _ _ rfl (HS10.out.at_ 4 rfl) (nsV F2) rfl rfl (by kernel_rfl) (Nat.le_of_ble_eq_true rfl) (by kernel_rfl) ?_; intro W11 hB hP; have HS11 := Lib.hid (HS10.out.put 4 rfl (new := (nsA F2)) hB hP); clear hB hP HS10; obtain ⟨r1a, r1b, r1c⟩ := HS11.out.rules 1 rfl))
              refine (alive_c _ (HTab.out.after HS11.out.below)).mono ?_
              rintro e W12 ⟨rfl, hb⟩
              have HS12 := Lib.hid (HS11.out.after hb)
              clear hb HS11 r1a r1b r1c
              go_wp2_with fail
              go_ret
              exact ⟨rfl, HS12.out.below⟩
        · have hvb : (v == 0) = false := beq_false_of_ne hv
          go_wp2_with fail
          refine (alive_c _ (HTab.out.after HS8.out.below)).mono ?_
          rintro e W9 ⟨rfl, hb⟩
          have HS9 := Lib.hid (HS8.out.after hb)
          clear hb HS8
          go_wp2_with fail
          go_ret
          exact ⟨rfl, HS9.out.below⟩
      · have hfb : (f1 == 0) = false := beq_false_of_ne hf
        go_wp2_with (first
          | (have hq := HS5; clear hq; (with_reducible refine atAlloc ?_); refine wpList_alloc_b rfl (some 12) rfl 24 (#[.int .u64 0, .int .u64 0, .int .u64 0, .int .u64 0]) (by kernel_rfl) ?_; intro g6 W6 hb hB hg; have HS6 := Lib.hid (HS5.out.new hb hB hg); clear hb hB hg HS5)
          | (have hq := HS6; clear hq; (with_reducible refine atStore ?_); refine wpList_store_at rfl 24 _ _ rfl (HS6.out.at_ 3 rfl) (nsV F1) rfl rfl (by kernel_rfl) (Nat.le_of_ble_eq_true rfl) (by kernel_rfl) ?_; intro W7 hB hP; have HS7 := Lib.hid (HS6.out.put 3 rfl (new := (nsA F1)) hB hP); clear hB hP HS6))
        refine (alive_c _ (HTab.out.after HS7.out.below)).mono ?_
        rintro e W8 ⟨rfl, hb⟩
        have HS8 := Lib.hid (HS7.out.after hb)
        clear hb HS7
        go_wp2_with fail
        go_ret
        exact ⟨rfl, HS8.out.below⟩
end Go.Proofs.YtkgdcicaokekfaaDoor
