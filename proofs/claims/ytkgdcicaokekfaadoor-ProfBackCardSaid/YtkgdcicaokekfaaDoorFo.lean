/- Prof: ProfBack. -/
import Derived.Test.YtkgdcicaokekfaaDoorFq
set_option linter.unusedVariables false
namespace Go.Proofs.YtkgdcicaokekfaaDoor
open Go.RowKit Go.Sort

set_option maxRecDepth 100000 in
set_option maxHeartbeats 32000000 in
theorem profBack_w (nodes : NS) (A : Option Addr) (n c : Nat) (acts : List Ak) (a : Ak) (w : World) (hA : ReadsAk w A n c acts) (hT : TabW w) :
    Calls Tryd.prog 6 #[nsV nodes, .slice A n c, akV a] w fun e w' => e = .returned (.bool true) ∧ Below w.heap.size w w' := by
  have HA := Lib.hid hA
  have HTab := Lib.hid hT
  have hnI : (n : Int) ≤ 9223372036854775807 := by have := hA.2.1; have := hA.2.2.1; omega
  have H14 := Lib.hid (show min n 14 ≤ n by omega)
  clear hA hT
  go_enter Tryd.func6, Tryd.ntmps6
  have HS0 := Lib.hid (Ms.nil w noB)
  go_wp2_with (first
    | (have hq := HS0; clear hq; (with_reducible refine atBox ?_); refine wpList_alloc_b rfl (some 3) rfl 24 ((nsA nodes)) (by kernel_rfl) ?_; intro g1 W1 hb hB hg; have HS1 := Lib.hid (HS0.out.new hb hB hg); clear hb hB hg HS0)
    | (have hq := HS1; clear hq; (with_reducible refine atBox ?_); refine wpList_alloc_b rfl (some 5) rfl 27 ((akA a)) (by kernel_rfl) ?_; intro g2 W2 hb hB hg; have HS2 := Lib.hid (HS1.out.new hb hB hg); clear hb hB hg HS1)
    | (have hq := HS2; clear hq; (with_reducible refine atLoad ?_); refine wpList_load_at rfl 24 _ rfl (HS2.out.at_ 0 rfl) 4 (nsV nodes) rfl _ Tryd.underlying24 rfl (by kernel_rfl) (Nat.le_of_ble_eq_true rfl) rfl ?_))
  refine (new_f nodes _).mono ?_
  rintro e W3 ⟨p3, rfl, A3, c3, hM⟩
  have HS3 := Lib.hid (HS2.out.made hM)
  clear hM HS2
  go_wp2_with fail
  have HG3 := Lib.hid (good_one nodes)
  go_wp2_with fail
  refine (short_pc A n c acts _ (HA.out.below HS3.out.below)).mono ?_
  rintro e w' ⟨rfl, rfl⟩
  go_wp2_with fail
  obtain ⟨p, hp⟩ : ∃ p, p = p3 := ⟨_, rfl⟩
  rw [← hp] at HS3 ⊢
  clear hp
  go_loopw [28] (fun k wr => ∃ (kk : Nat) (A2 : Option Addr) (c2 : Nat) (l : List (Sp NS)), kk ≤ min n 14 ∧ k = .int .i64 (kk : Nat) ∧ Hid (Good l) ∧ Hid (Ms w noB [(.blk g1 24 (nsA nodes)), (.blk g2 27 (akA a)), .pf p nodes A2 c2 l] wr)) (fun k _ => min n 14 - (intOf k).toNat)
  case atStart => exact ⟨0, _, _, _, by omega, rfl, HG3, HS3⟩
  case round =>
    obtain ⟨k, A2, c2, l, hkm, rfl, HG, HS4⟩ := hrel
    have hkI : (k : Int) ≤ ((min n 14 : Nat) : Int) := by omega
    by_cases hlt : k < min n 14
    · have hltI : (k : Int) < ((min n 14 : Nat) : Int) := by omega
      obtain ⟨ad, rfl, hc⟩ := HA.out.2.2.2 (by omega)
      obtain ⟨x, hx⟩ : ∃ x, acts[k]? = some x := ⟨_, List.getElem?_eq_getElem (by have := HA.out.1; omega)⟩
      have HC := Lib.hid (fun j v hv => (HS4.out.below.cell (block_lt_of_cell (hc k x hx j v hv))).trans (hc k x hx j v hv))
      clear hc hx
      go_wp2_with (first
        | (have hq := HC; clear hq; refine wpList_load_ad (by kernel_rfl) 27 _ rfl (ad.add (k * 7)) (akL x) HC.out rfl _ (akV x) rfl Tryd.underlying27 rfl (by kernel_rfl) ?_; clear HC)
        | (have hq := HS4; clear hq; (with_reducible refine atAlloc ?_); refine wpList_alloc_b rfl (some 10) rfl 27 (#[.bool false, .int .u64 0, .int .u64 0, .int .u64 0, .int .u64 0, .int .i64 0, .int .i64 0]) (by kernel_rfl) ?_; intro g5 W5 hb hB hg; have HS5 := Lib.hid (HS4.out.new hb hB hg); clear hb hB hg HS4)
        | (have hq := HS5; clear hq; (with_reducible refine atStore ?_); refine wpList_store_at rfl 27 _ _ rfl (HS5.out.at_ 3 rfl) (akV x) rfl rfl (by kernel_rfl) (Nat.le_of_ble_eq_true rfl) (by kernel_rfl) ?_; intro W6 hB hP; have HS6 := Lib.hid (HS5.out.put 3 rfl (new := (akA x)) hB hP); clear hB hP HS5)
        | (have hq := HS6; clear hq; (with_reducible refine atLoad ?_); refine wpList_load_at rfl 27 _ rfl (HS6.out.at_ 3 rfl) 7 (akV x) rfl _ Tryd.underlying27 rfl (by kernel_rfl) (Nat.le_of_ble_eq_true rfl) rfl ?_))
      refine (does_f p nodes A2 c2 l x _ HG.out (HS6.out.ok 2 _ rfl)).mono ?_
      rintro e W7 ⟨v, l2, rfl, hv, hl, A7, c7, hM⟩
      have HS7 := Lib.hid (HS6.out.call 2 rfl hM)
      clear hM HS6
      have HG2 := Lib.hid (hl ▸ HG.out.does : Good l2)
      clear hv hl
      go_wp2_with fail
      refine ⟨⟨k + 1, A7, c7, l2, by omega, by go_num, HG2, ?_⟩, by simp [intOf]; omega⟩
      exact Lib.hid (Ms.cut (l := [(.blk g1 24 (nsA nodes)), (.blk g2 27 (akA a)), .pf p nodes A7 c7 l2]) (k := [(.blk g5 27 (akA x))]) HS7.out)
    · obtain rfl : k = min n 14 := by omega
      go_wp2_with fail
      refine (copy_f p nodes _ _ l _ HG.out (HS4.out.ok 2 _ rfl)).mono ?_
      rintro e W5 ⟨q, rfl, Aq, cq, hM⟩
      have HS5 := Lib.hid (HS4.out.made hM)
      clear hM HS4
      obtain ⟨r1a, r1b, r1c⟩ := HS5.out.rules 1 rfl
      go_wp2_with (have hq := HS5; clear hq; (with_reducible refine atLoad ?_); refine wpList_load_at rfl 24 _ rfl (HS5.out.at_ 1 rfl) 4 (.agg #[.int .u64 (wn a.s 0 : Nat), .int .u64 (wn a.s 1 : Nat), .int .u64 (wn a.s 2 : Nat), .int .u64 (wn a.s 3 : Nat)]) rfl _ Tryd.underlying24 rfl (by kernel_rfl) (Nat.le_of_ble_eq_true rfl) rfl ?_)
      refine (take_f p nodes _ _ l a.lo a.hi a.s _ HG.out (HS5.out.ok 2 _ rfl)).mono ?_
      rintro e W6 ⟨v, l2, rfl, hv, hl, A6, c6, hM⟩
      have HS6 := Lib.hid (HS5.out.call 2 rfl hM)
      clear hM HS5 r1a r1b r1c
      have HG2 := Lib.hid (hl ▸ HG.out.take : Good l2)
      have HL2 := Lib.hid hl
      have HV2 := Lib.hid hv
      clear hv hl
      by_cases hv : v = 0
      · subst hv
        have HSP := Lib.hid (takeE_zero HV2.out.symm).1
        have HDU := Lib.hid (show durN nodes l2 0 a.lo a.hi = durS nodes l2 a.lo a.hi by unfold durN; rw [HSP.out, if_pos rfl])
        obtain ⟨D, hD⟩ : ∃ D, D = durS nodes l2 a.lo a.hi := ⟨_, rfl⟩
        rw [← hD] at HDU
        have HDA := Lib.hid (show D &&& a.s = emptyS by rw [hD, HL2.out]; exact back_dur HG.out HV2.out.symm)
        clear hD
        have HEQ := Lib.hid (fun w9 => show (Op.equalIn 10000 24 (nsV (D &&& a.s)) (nsV emptyS)).run Tryd.prog w9 = .ok true w9 by rw [eqNs_run, HDA.out]; simp)
        obtain ⟨r1a, r1b, r1c⟩ := HS6.out.rules 1 rfl
        go_wp2_with fail
        refine (during_f p nodes _ _ l2 a.lo a.hi _ HG2.out (HS6.out.ok 2 _ rfl)).mono ?_
        rintro e W7 ⟨rfl, hb⟩
        have HS7 := Lib.hid (HS6.out.after hb)
        clear hb HS6 r1a r1b r1c
        rw [HDU.out, HSP.out]
        have hbg := back_give HG.out HV2.out.symm
        rw [← HL2.out] at hbg
        have HBG := Lib.hid hbg
        clear hbg
        go_wp2_with (first
          | (have hq := HS7; clear hq; (with_reducible refine atAlloc ?_); refine wpList_alloc_b rfl (some 12) rfl 24 (#[.int .u64 0, .int .u64 0, .int .u64 0, .int .u64 0]) (by kernel_rfl) ?_; intro g8 W8 hb hB hg; have HS8 := Lib.hid (HS7.out.new hb hB hg); clear hb hB hg HS7)
          | (have hq := HS8; clear hq; (with_reducible refine atStore ?_); refine wpList_store_at rfl 24 _ _ rfl (HS8.out.at_ 4 rfl) (nsV D) rfl rfl (by kernel_rfl) (Nat.le_of_ble_eq_true rfl) (by kernel_rfl) ?_; intro W9 hB hP; have HS9 := Lib.hid (HS8.out.put 4 rfl (new := (nsA D)) hB hP); clear hB hP HS8)
          | (have hq := HS9; clear hq; refine wpList_load_g (by kernel_rfl) 24 _ rfl (HS9.out.at_ 4 rfl) 4 (nsV D) rfl _ Tryd.underlying24 rfl (by kernel_rfl) (Nat.le_of_ble_eq_true rfl) rfl ?_)
          | (have hq := HS9; clear hq; refine wpList_load_g (by kernel_rfl) 24 _ rfl (HS9.out.at_ 1 rfl) 4 (.agg #[.int .u64 (wn a.s 0 : Nat), .int .u64 (wn a.s 1 : Nat), .int .u64 (wn a.s 2 : Nat), .int .u64 (wn a.s 3 : Nat)]) rfl _ Tryd.underlying24 rfl (by kernel_rfl) (Nat.le_of_ble_eq_true rfl) rfl ?_))
        refine (and_c D a.s _).mono ?_
        rintro e W10 ⟨rfl, hb⟩
        have HS10 := Lib.hid (HS9.out.after hb)
        clear hb HS9
        obtain ⟨r1a, r1b, r1c⟩ := HS10.out.rules 1 rfl
        go_wp2_with (first
          | (have hq := HS10; clear hq; refine wpList_neq (by kernel_rfl) 24 _ _ _ rfl rfl rfl (by kernel_rfl) true (HEQ.out _) ?_)
          | (have hq := HS10; clear hq; (with_reducible refine atLoad ?_); refine wpList_load_at rfl 24 _ rfl (HS10.out.at_ 1 rfl) 4 (.agg #[.int .u64 (wn a.s 0 : Nat), .int .u64 (wn a.s 1 : Nat), .int .u64 (wn a.s 2 : Nat), .int .u64 (wn a.s 3 : Nat)]) rfl _ Tryd.underlying24 rfl (by kernel_rfl) (Nat.le_of_ble_eq_true rfl) rfl ?_))
        refine (give_f p nodes _ _ l2 a.lo a.hi a.s _ HG2.out (HS10.out.ok 2 _ rfl)).mono ?_
        rintro e W11 ⟨v2, l3, rfl, hv, hl, A11, c11, hM⟩
        have HS11 := Lib.hid (HS10.out.call 2 rfl hM)
        clear hM HS10 r1a r1b r1c
        have hv2 : v2 = 0 := hv.trans HBG.out.1
        have hl3 : l3 = l := hl.trans HBG.out.2
        clear hv hl
        subst hv2
        subst hl3
        go_wp2_with fail
        refine (equal_c p q nodes _ _ _ _ _ _ HG.out (HS11.out.ok 2 _ rfl) (HS11.out.ok 3 _ rfl)).mono ?_
        rintro e W12 ⟨rfl, hb⟩
        have HS12 := Lib.hid (HS11.out.after hb)
        clear hb HS11
        go_wp2_with fail
        refine (alive_c _ (HTab.out.after HS12.out.below)).mono ?_
        rintro e W13 ⟨rfl, hb⟩
        have HS13 := Lib.hid (HS12.out.after hb)
        clear hb HS12
        go_wp2_with fail
        go_ret
        exact ⟨rfl, HS13.out.below⟩
      · have hvb : (v == 0) = false := beq_false_of_ne hv
        have hl2 : l2 = l := by rw [HL2.out]; unfold takeL; rw [if_neg (by rw [← HV2.out]; exact hv)]
        subst hl2
        go_wp2_with fail
        refine (equal_c p q nodes _ _ _ _ _ _ HG.out (HS6.out.ok 2 _ rfl) (HS6.out.ok 3 _ rfl)).mono ?_
        rintro e W7 ⟨rfl, hb⟩
        have HS7 := Lib.hid (HS6.out.after hb)
        clear hb HS6
        go_wp2_with fail
        refine (alive_c _ (HTab.out.after HS7.out.below)).mono ?_
        rintro e W8 ⟨rfl, hb⟩
        have HS8 := Lib.hid (HS7.out.after hb)
        clear hb HS7
        go_wp2_with fail
        go_ret
        exact ⟨rfl, HS8.out.below⟩
end Go.Proofs.YtkgdcicaokekfaaDoor
