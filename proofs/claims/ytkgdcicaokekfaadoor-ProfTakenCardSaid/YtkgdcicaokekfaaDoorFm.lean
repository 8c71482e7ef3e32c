/- Prof: ProfTaken. -/
import Derived.Test.YtkgdcicaokekfaaDoorFn
set_option linter.unusedVariables false
namespace Go.Proofs.YtkgdcicaokekfaaDoor
open Go.RowKit Go.Sort

set_option maxRecDepth 100000 in
set_option maxHeartbeats 32000000 in
theorem profTaken_w (nodes : NS) (A : Option Addr) (n c : Nat) (acts : List Ak) (a : Ak) (w : World) (hA : ReadsAk w A n c acts) (hT : TabW w) :
    Calls Tryd.prog 5 #[nsV nodes, .slice A n c, akV a] w fun e w' => e = .returned (.bool true) ∧ Below w.heap.size w w' := by
  have HA := Lib.hid hA
  have HTab := Lib.hid hT
  have hnI : (n : Int) ≤ 9223372036854775807 := by have := hA.2.1; have := hA.2.2.1; omega
  have H14 := Lib.hid (show min n 14 ≤ n by omega)
  clear hA hT
  go_enter Tryd.func5, Tryd.ntmps5
  have HS0 := Lib.hid (Ms.nil w noB)
  go_wp2_with (first
    | (have hq := HS0; clear hq; (with_reducible refine atBox ?_); refine wpList_alloc_b rfl (some 3) rfl 24 ((nsA nodes)) (by kernel_rfl) ?_; intro g1 W1 hb hB hg; have HS1 := Lib.hid (HS0.out.new hb hB hg); clear hb hB hg HS0)
    | (have hq := HS1; clear hq; (with_reducible refine atBox ?_); refine wpList_alloc_b rfl (some 5) rfl 27 ((akA a)) (by kernel_rfl) ?_; intro g2 W2 hb hB hg; have HS2 := Lib.hid (HS1.out.new hb hB hg); clear hb hB hg HS1)
    | (have hq := HS2; clear hq; (with_reducible refine atLoad ?_); refine wpList_load_at rfl 24 _ rfl (HS2.out.at_ 0 rfl) 4 (nsV nodes) rfl _ Tryd.underlying24 rfl (by kernel_rfl) (Nat.le_of_ble_eq_true rfl) rfl ?_))
  refine (new_f nodes _).mono ?_
  rintro e W3 ⟨p3, rfl, A3, c3, hM⟩
  have HS3 := Lib.hid (HS2.out.made hM)
  clear hM HS2
  go_wp2_with fail
  have HG3 := Lib.hid (good_one nodes)
  go_wp2_with fail
  refine (short_pc A n c acts _ (HA.out.below HS3.out.below)).mono ?_
  rintro e w' ⟨rfl, rfl⟩
  go_wp2_with fail
  obtain ⟨p, hp⟩ : ∃ p, p = p3 := ⟨_, rfl⟩
  rw [← hp] at HS3 ⊢
  clear hp
  go_loopw [32] (fun k wr => ∃ (kk : Nat) (A2 : Option Addr) (c2 : Nat) (l : List (Sp NS)), kk ≤ min n 14 ∧ k = .int .i64 (kk : Nat) ∧ Hid (Good l) ∧ Hid (Ms w noB [(.blk g1 24 (nsA nodes)), (.blk g2 27 (akA a)), .pf p nodes A2 c2 l] wr)) (fun k _ => min n 14 - (intOf k).toNat)
  case atStart => exact ⟨0, _, _, _, by omega, rfl, HG3, HS3⟩
  case round =>
    obtain ⟨k, A2, c2, l, hkm, rfl, HG, HS4⟩ := hrel
    have hkI : (k : Int) ≤ ((min n 14 : Nat) : Int) := by omega
    by_cases hlt : k < min n 14
    · have hltI : (k : Int) < ((min n 14 : Nat) : Int) := by omega
      obtain ⟨ad, rfl, hc⟩ := HA.out.2.2.2 (by omega)
      obtain ⟨x, hx⟩ : ∃ x, acts[k]? = some x := ⟨_, List.getElem?_eq_getElem (by have := HA.out.1; omega)⟩
      have HC := Lib.hid (fun j v hv => (HS4.out.below.cell (block_lt_of_cell (hc k x hx j v hv))).trans (hc k x hx j v hv))
      clear hc hx
      go_wp2_with (first
        | (have hq := HC; clear hq; refine wpList_load_ad (by kernel_rfl) 27 _ rfl (ad.add (k * 7)) (akL x) HC.out rfl _ (akV x) rfl Tryd.underlying27 rfl (by kernel_rfl) ?_; clear HC)
        | (have hq := HS4; clear hq; (with_reducible refine atAlloc ?_); refine wpList_alloc_b rfl (some 10) rfl 27 (#[.bool false, .int .u64 0, .int .u64 0, .int .u64 0, .int .u64 0, .int .i64 0, .int .i64 0]) (by kernel_rfl) ?_; intro g5 W5 hb hB hg; have HS5 := Lib.hid (HS4.out.new hb hB hg); clear hb hB hg HS4)
        | (have hq := HS5; clear hq; (with_reducible refine atStore ?_); refine wpList_store_at rfl 27 _ _ rfl (HS5.out.at_ 3 rfl) (akV x) rfl rfl (by kernel_rfl) (Nat.le_of_ble_eq_true rfl) (by kernel_rfl) ?_; intro W6 hB hP; have HS6 := Lib.hid (HS5.out.put 3 rfl (new := (akA x)) hB hP); clear hB hP HS5)
        | (have hq := HS6; clear hq; (with_reducible refine atLoad ?_); refine wpList_load_at rfl 27 _ rfl (HS6.out.at_ 3 rfl) 7 (akV x) rfl _ Tryd.underlying27 rfl (by kernel_rfl) (Nat.le_of_ble_eq_true rfl) rfl ?_))
      refine (does_f p nodes A2 c2 l x _ HG.out (HS6.out.ok 2 _ rfl)).mono ?_
      rintro e W7 ⟨v, l2, rfl, hv, hl, A7, c7, hM⟩
      have HS7 := Lib.hid (HS6.out.call 2 rfl hM)
      clear hM HS6
      have HG2 := Lib.hid (hl ▸ HG.out.does : Good l2)
      clear hv hl
      go_wp2_with fail
      refine ⟨⟨k + 1, A7, c7, l2, by omega, by go_num, HG2, ?_⟩, by simp [intOf]; omega⟩
      exact Lib.hid (Ms.cut (l := [(.blk g1 24 (nsA nodes)), (.blk g2 27 (akA a)), .pf p nodes A7 c7 l2]) (k := [(.blk g5 27 (akA x))]) HS7.out)
    · obtain rfl : k = min n 14 := by omega
      go_wp2_with fail
      refine (copy_f p nodes _ _ l _ HG.out (HS4.out.ok 2 _ rfl)).mono ?_
      rintro e W5 ⟨q, rfl, Aq, cq, hM⟩
      have HS5 := Lib.hid (HS4.out.made hM)
      clear hM HS4
      obtain ⟨r1a, r1b, r1c⟩ := HS5.out.rules 1 rfl
      go_wp2_with (have hq := HS5; clear hq; refine wpList_load_g (by kernel_rfl) 24 _ rfl (HS5.out.at_ 1 rfl) 4 (.agg #[.int .u64 (wn a.s 0 : Nat), .int .u64 (wn a.s 1 : Nat), .int .u64 (wn a.s 2 : Nat), .int .u64 (wn a.s 3 : Nat)]) rfl _ Tryd.underlying24 rfl (by kernel_rfl) (Nat.le_of_ble_eq_true rfl) rfl ?_)
      refine (take_f p nodes _ _ l a.lo a.hi a.s _ HG.out (HS5.out.ok 2 _ rfl)).mono ?_
      rintro e W6 ⟨v, l2, rfl, hv, hl, A6, c6, hM⟩
      have HS6 := Lib.hid (HS5.out.call 2 rfl hM)
      clear hM HS5 r1a r1b r1c
      have HG2 := Lib.hid (hl ▸ HG.out.take : Good l2)
      have HL2 := Lib.hid hl
      have HV2 := Lib.hid hv
      clear hv hl
      by_cases hv : v = 0
      · subst hv
        have hsp := spanE_zero (takeE_zero HV2.out.symm).1
        obtain ⟨s0, s1, s2⟩ := hsp
        have HSP := Lib.hid (show 0 ≤ a.lo ∧ a.lo < a.hi ∧ a.hi ≤ 2199023255552 from ⟨s0, s1, s2⟩)
        obtain ⟨r1a, r1b, r1c⟩ := HS6.out.rules 1 rfl
        go_wp2_with (have hq := HS6; clear hq; (with_reducible refine atBuild ?_); refine wpList_build_b rfl (some 70) rfl 3 4 (#[.int .i64 (a.lo - 1), .int .i64 a.lo, .int .i64 (a.hi - 1), .int .i64 a.hi]) (by kernel_rfl) ?_; intro g7 W7 hb hB hg; have HS7 := Lib.hid (HS6.out.new hb hB hg); clear hb hB hg HS6; clear r1a r1b r1c)
        clear s0 s1 s2
        go_loopw [72] (fun k wr => ∃ kk : Nat, kk ≤ 4 ∧ k = .int .i64 (kk : Nat) ∧ Hid (Ms w noB [(.blk g1 24 (nsA nodes)), (.blk g2 27 (akA a)), .pf p nodes A6 c6 l2, .pf q nodes Aq cq l, (.blk g7 3 #[.int .i64 (a.lo - 1), .int .i64 a.lo, .int .i64 (a.hi - 1), .int .i64 a.hi])] wr)) (fun k _ => 4 - (intOf k).toNat)
        case atStart => exact ⟨0, by omega, rfl, HS7⟩
        case round =>
          obtain ⟨k, hk4, rfl, HS8⟩ := hrel
          by_cases hlt4 : k < 4
          · have hltI : (k : Int) < 4 := by omega
            obtain ⟨t, ht⟩ := cell_of_four (x0 := a.lo - 1) (x1 := a.lo) (x2 := a.hi - 1) (x3 := a.hi) hlt4
            have hcell : _ := ((HS8.out.rules 4 rfl).1 k).trans ht
            clear ht
            have HF := Lib.hid (taken_free (t := t) HG.out HV2.out.symm)
            rw [← HL2.out] at HF
            obtain ⟨x, hx⟩ : ∃ x, x = freeN l 0 t := ⟨_, rfl⟩
            obtain ⟨y, hy⟩ : ∃ y, y = freeN l2 0 t := ⟨_, rfl⟩
            have HX := Lib.hid hx
            have HY := Lib.hid hy
            rw [← hx, ← hy] at HF
            clear hx hy
            obtain ⟨fe, hfe⟩ : ∃ fe, fe = freeE 0 t := ⟨_, rfl⟩
            have HFE := Lib.hid hfe
            clear hfe
            have hlo := HSP.out.1
            obtain ⟨r4a, r4b, r4c⟩ := HS8.out.rules 4 rfl
            go_wp2_with fail
            refine (free_f q nodes _ _ l t _ HG.out (HS8.out.ok 3 _ rfl)).mono ?_
            rintro e W9 ⟨rfl, hb⟩
            have HS9 := Lib.hid (HS8.out.after hb)
            clear hb HS8 r4a r4b r4c
            rw [← HX.out, ← HFE.out]
            clear hcell
            go_wp2_with (first
              | (have hq := HS9; clear hq; (with_reducible refine atAlloc ?_); refine wpList_alloc_b rfl (some 14) rfl 24 (#[.int .u64 0, .int .u64 0, .int .u64 0, .int .u64 0]) (by kernel_rfl) ?_; intro g10 W10 hb hB hg; have HS10 := Lib.hid (HS9.out.new hb hB hg); clear hb hB hg HS9)
              | (have hq := HS10; clear hq; (with_reducible refine atStore ?_); refine wpList_store_at rfl 24 _ _ rfl (HS10.out.at_ 5 rfl) (nsV x) rfl rfl (by kernel_rfl) (Nat.le_of_ble_eq_true rfl) (by kernel_rfl) ?_; intro W11 hB hP; have HS11 := Lib.hid (HS10.out.put 5 rfl (new := (nsA x)) hB hP); clear hB hP HS10))
            refine (free_f p nodes _ _ l2 t _ HG2.out (HS11.out.ok 2 _ rfl)).mono ?_
            rintro e W12 ⟨rfl, hb⟩
            have HS12 := Lib.hid (HS11.out.after hb)
            clear hb HS11
            rw [← HY.out, ← HFE.out]
            by_cases hin : a.lo ≤ t ∧ t < a.hi
            · obtain ⟨hin1, hin2⟩ := hin
              rw [if_pos ⟨hin1, hin2⟩] at HF
              have HEQ := Lib.hid (fun w9 => show (Op.equalIn 10000 24 (nsV (notS x a.s)) (nsV y)).run Tryd.prog w9 = .ok true w9 by rw [eqNs_run, HF.out]; simp)
              go_wp2_with (first
                | (have hq := HS12; clear hq; (with_reducible refine atAlloc ?_); refine wpList_alloc_b rfl (some 16) rfl 24 (#[.int .u64 0, .int .u64 0, .int .u64 0, .int .u64 0]) (by kernel_rfl) ?_; intro g13 W13 hb hB hg; have HS13 := Lib.hid (HS12.out.new hb hB hg); clear hb hB hg HS12)
                | (have hq := HS13; clear hq; (with_reducible refine atStore ?_); refine wpList_store_at rfl 24 _ _ rfl (HS13.out.at_ 6 rfl) (nsV y) rfl rfl (by kernel_rfl) (Nat.le_of_ble_eq_true rfl) (by kernel_rfl) ?_; intro W14 hB hP; have HS14 := Lib.hid (HS13.out.put 6 rfl (new := (nsA y)) hB hP); clear hB hP HS13; obtain ⟨r1a, r1b, r1c⟩ := HS14.out.rules 1 rfl)
                | (have hq := HS14; clear hq; (with_reducible refine atLoad ?_); refine wpList_load_at rfl 24 _ rfl (HS14.out.at_ 5 rfl) 4 (nsV x) rfl _ Tryd.underlying24 rfl (by kernel_rfl) (Nat.le_of_ble_eq_true rfl) rfl ?_)
                | (have hq := HS14; clear hq; (with_reducible refine atLoad ?_); refine wpList_load_at rfl 24 _ rfl (HS14.out.at_ 1 rfl) 4 (.agg #[.int .u64 (wn a.s 0 : Nat), .int .u64 (wn a.s 1 : Nat), .int .u64 (wn a.s 2 : Nat), .int .u64 (wn a.s 3 : Nat)]) rfl _ Tryd.underlying24 rfl (by kernel_rfl) (Nat.le_of_ble_eq_true rfl) rfl ?_))
              refine (not_c x a.s _).mono ?_
              rintro e W15 ⟨rfl, hb⟩
              have HS15 := Lib.hid (HS14.out.after hb)
              clear hb HS14 r1a r1b r1c
              go_wp2_with (first
                | (have hq := HS15; clear hq; (with_reducible refine atStore ?_); refine wpList_store_at rfl 24 _ _ rfl (HS15.out.at_ 5 rfl) (nsV (notS x a.s)) rfl rfl (by kernel_rfl) (Nat.le_of_ble_eq_true rfl) (by kernel_rfl) ?_; intro W16 hB hP; have HS16 := Lib.hid (HS15.out.put 5 rfl (new := (nsA (notS x a.s))) hB hP); clear hB hP HS15)
                | (have hq := HS16; clear hq; (with_reducible refine atLoad ?_); refine wpList_load_at rfl 24 _ rfl (HS16.out.at_ 5 rfl) 4 (nsV (notS x a.s)) rfl _ Tryd.underlying24 rfl (by kernel_rfl) (Nat.le_of_ble_eq_true rfl) rfl ?_)
                | (have hq := HS16; clear hq; (with_reducible refine atLoad ?_); refine wpList_load_at rfl 24 _ rfl (HS16.out.at_ 6 rfl) 4 (nsV y) rfl _ Tryd.underlying24 rfl (by kernel_rfl) (Nat.le_of_ble_eq_true rfl) rfl ?_)
                | (have hq := HS16; clear hq; refine wpList_neq (by kernel_rfl) 24 _ _ _ rfl rfl rfl (by kernel_rfl) true (HEQ.out _) ?_))
              refine ⟨⟨k + 1, by omega, by go_num, ?_⟩, by simp [intOf]; omega⟩
              exact Lib.hid (Ms.cut (l := [(.blk g1 24 (nsA nodes)), (.blk g2 27 (akA a)), .pf p nodes A6 c6 l2, .pf q nodes Aq cq l, (.blk g7 3 #[.int .i64 (a.lo - 1), .int .i64 a.lo, .int .i64 (a.hi - 1), .int .i64 a.hi])]) (k := [(.blk g10 24 (nsA (notS x a.s))), (.blk g13 24 (nsA y))]) HS16.out)
            · rw [if_neg hin] at HF
              by_cases hge : a.lo ≤ t
              · have hlt2 : a.hi ≤ t := by omega
                clear hin
                have HEQ := Lib.hid (fun w9 => show (Op.equalIn 10000 24 (nsV x) (nsV y)).run Tryd.prog w9 = .ok true w9 by rw [eqNs_run, HF.out]; simp)
                go_wp2_with (first
                  | (have hq := HS12; clear hq; (with_reducible refine atAlloc ?_); refine wpList_alloc_b rfl (some 16) rfl 24 (#[.int .u64 0, .int .u64 0, .int .u64 0, .int .u64 0]) (by kernel_rfl) ?_; intro g13 W13 hb hB hg; have HS13 := Lib.hid (HS12.out.new hb hB hg); clear hb hB hg HS12)
                  | (have hq := HS13; clear hq; (with_reducible refine atStore ?_); refine wpList_store_at rfl 24 _ _ rfl (HS13.out.at_ 6 rfl) (nsV y) rfl rfl (by kernel_rfl) (Nat.le_of_ble_eq_true rfl) (by kernel_rfl) ?_; intro W14 hB hP; have HS14 := Lib.hid (HS13.out.put 6 rfl (new := (nsA y)) hB hP); clear hB hP HS13; obtain ⟨r1a, r1b, r1c⟩ := HS14.out.rules 1 rfl)
                  | (have hq := HS14; clear hq; (with_reducible refine atLoad ?_); refine wpList_load_at rfl 24 _ rfl (HS14.out.at_ 5 rfl) 4 (nsV x) rfl _ Tryd.underlying24 rfl (by kernel_rfl) (Nat.le_of_ble_eq_true rfl) rfl ?_)
                  | (have hq := HS14; clear hq; (with_reducible refine atLoad ?_); refine wpList_load_at rfl 24 _ rfl (HS14.out.at_ 6 rfl) 4 (nsV y) rfl _ Tryd.underlying24 rfl (by kernel_rfl) (Nat.le_of_ble_eq_true rfl) rfl ?_)
                  | (have hq := HS14; clear hq; refine wpList_neq (by kernel_rfl) 24 _ _ _ rfl rfl rfl (by kernel_rfl) true (HEQ.out _) ?_))
                refine ⟨⟨k + 1, by omega, by go_num, ?_⟩, by simp [intOf]; omega⟩
                exact Lib.hid (Ms.cut (l := [(.blk g1 24 (nsA nodes)), (.blk g2 27 (akA a)), .pf p nodes A6 c6 l2, .pf q nodes Aq cq l, (.blk g7 3 #[.int .i64 (a.lo - 1), .int .i64 a.lo, .int .i64 (a.hi - 1), .int .i64 a.hi])]) (k := [(.blk g10 24 (nsA x)), (.blk g13 24 (nsA y))]) HS14.out)
              · have hge2 : t < a.lo := by omega
                clear hin
                have HEQ := Lib.hid (fun w9 => show (Op.equalIn 10000 24 (nsV x) (nsV y)).run Tryd.prog w9 = .ok true w9 by rw [eqNs_run, HF.out]; simp)
                go_wp2_with (first
                  | (have hq := HS12; clear hq; (with_reducible refine atAlloc ?_); refine wpList_alloc_b rfl (some 16) rfl 24 (#[.int .u64 0, .int .u64 0, .int .u64 0, .int .u64 0]) (by kernel_rfl) ?_; intro g13 W13 hb hB hg; have HS13 := Lib.hid (HS12.out.new hb hB hg); clear hb hB hg HS12)
                  | (have hq := HS13; clear hq; (with_reducible refine atStore ?_); refine wpList_store_at rfl 24 _ _ rfl (HS13.out.at_ 6 rfl) (nsV y) rfl rfl (by kernel_rfl) (Nat.le_of_ble_eq_true rfl) (by kernel_rfl) ?_; intro W14 hB hP; have HS14 := Lib.hid (HS13.out.put 6 rfl (new := (nsA y)) hB hP); clear hB hP HS13; obtain ⟨r1a, r1b, r1c⟩ := HS14.out.rules 1 rfl)
                  | (have hq := HS14; clear hq; (with_reducible refine atLoad ?_); refine wpList_load_at rfl 24 _ rfl (HS14.out.at_ 5 rfl) 4 (nsV x) rfl _ Tryd.underlying24 rfl (by kernel_rfl) (Nat.le_of_ble_eq_true rfl) rfl ?_)
                  | (have hq := HS14; clear hq; (with_reducible refine atLoad ?_); refine wpList_load_at rfl 24 _ rfl (HS14.out.at_ 6 rfl) 4 (nsV y) rfl _ Tryd.underlying24 rfl (by kernel_rfl) (Nat.le_of_ble_eq_true rfl) rfl ?_)
                  | (have hq := HS14; clear hq; refine wpList_neq (by kernel_rfl) 24 _ _ _ rfl rfl rfl (by kernel_rfl) true (HEQ.out _) ?_))
                refine ⟨⟨k + 1, by omega, by go_num, ?_⟩, by simp [intOf]; omega⟩
                exact Lib.hid (Ms.cut (l := [(.blk g1 24 (nsA nodes)), (.blk g2 27 (akA a)), .pf p nodes A6 c6 l2, .pf q nodes Aq cq l, (.blk g7 3 #[.int .i64 (a.lo - 1), .int .i64 a.lo, .int .i64 (a.hi - 1), .int .i64 a.hi])]) (k := [(.blk g10 24 (nsA x)), (.blk g13 24 (nsA y))]) HS14.out)
          · obtain rfl : k = 4 := by omega
            go_wp2_with fail
            refine (alive_c _ (HTab.out.after HS8.out.below)).mono ?_
            rintro e W9 ⟨rfl, hb⟩
            have HS9 := Lib.hid (HS8.out.after hb)
            clear hb HS8
            go_wp2_with fail
            go_ret
            exact ⟨rfl, HS9.out.below⟩
      · have hvb : (v == 0) = false := beq_false_of_ne hv
        go_wp2_with fail
        refine (alive_c _ (HTab.out.after HS6.out.below)).mono ?_
        rintro e W7 ⟨rfl, hb⟩
        have HS7 := Lib.hid (HS6.out.after hb)
        clear hb HS6
        go_wp2_with fail
        go_ret
        exact ⟨rfl, HS7.out.below⟩
end Go.Proofs.YtkgdcicaokekfaaDoor
