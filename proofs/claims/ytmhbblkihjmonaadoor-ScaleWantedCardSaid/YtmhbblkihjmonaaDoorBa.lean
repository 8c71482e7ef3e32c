/- The sets' Nth and First. -/
import Derived.Test.YtmhbblkihjmonaaDoorB9
set_option linter.unusedVariables false
namespace Go.Proofs.YtmhbblkihjmonaaDoor
open Go.RowKit

theorem nth_word (s : NS) (q : Nat) (hq : q < 4) (k : Int) (h0 : (cntTo s q : Int) ≤ k) (h1 : k < cntTo s (q + 1)) (y : Nat) (hy : y = strike (k - cntTo s q).toNat (wn s q)) :
    k < cnt s ∧ y ≠ 0 ∧ ((64 * q + Lib.ctz 64 y : Nat) : Int) = (lst s).getD k.toNat 0 := by
  rw [cntTo_succ] at h1
  have hj : (k - cntTo s q).toNat < (wl (wn s q)).length := by omega
  have h2 : y ≠ 0 := by
    rw [hy]; intro e
    have := (strike_zero_iff _ (wn_lt s q)).1 e
    omega
  obtain ⟨hj2, e⟩ := ctz_strike _ (wn_lt s q) (by rw [← hy]; exact h2)
  rw [← hy] at e
  have hp := lstTo_prefix s (q + 1) (by omega)
  have hk : k.toNat < (lstTo s (q + 1)).length := by
    show k.toNat < cntTo s (q + 1)
    rw [cntTo_succ]; omega
  have hle := hp.length_le
  have hcl : (lstTo s q).length = cntTo s q := rfl
  have hlst : (lstN s)[k.toNat]? = some (64 * q + Lib.ctz 64 y) := by
    obtain ⟨r, hr⟩ := hp
    rw [← hr, List.getElem?_append_left hk]
    show (lstTo s q ++ (wl (wn s q)).map (64 * q + ·))[k.toNat]? = _
    rw [List.getElem?_append_right (by omega), List.getElem?_map, show k.toNat - (lstTo s q).length = (k - cntTo s q).toNat by omega, List.getElem?_eq_getElem hj2, e]
    rfl
  refine ⟨?_, h2, ?_⟩
  · have : (lstTo s (q + 1)).length ≤ cnt s := hle
    omega
  · simp [lst, List.getD_eq_getElem?_getD, hlst]

set_option maxHeartbeats 4000000 in
theorem nth_in (s : NS) (n : Int) (w : World) (hT : TabW w) (n0 : 0 ≤ n) (n1 : n ≤ 9223372036854775807) :
    Calls Tryd.prog 35 #[nsV s, .int .i64 n] w fun e w' => e = .returned (.tuple #[.int .i64 (nthV s n), .bool (nthOk s n)]) ∧ Below w.heap.size w w' := by
  have HT := Lib.hid hT
  have hlt0 := hT.lt
  clear hT
  go_enter Tryd.func35, Tryd.ntmps35
  go_wp2_with fail
  go_loop [1, 12] (fun x i => ∃ q : Nat, q ≤ 4 ∧ i = .int .i64 q ∧ (cntTo s q : Int) ≤ n ∧ x = .int .i64 (n - cntTo s q)) (fun _ i => 4 - (intOf i).toNat)
  case atStart => exact ⟨0, by omega, rfl, by simp [cntTo, lstTo]; omega, by simp [cntTo, lstTo]⟩
  case round =>
    obtain ⟨q, hq, rfl, hle, rfl⟩ := hrel
    have hcb := cntTo_le s q
    by_cases hlt : q < 4
    · have ix := ns_index s q hlt
      have hwl := wl_length (wn s q)
      obtain ⟨m, hm⟩ : ∃ m : Nat, (m : Int) = n - cntTo s q := ⟨(n - cntTo s q).toNat, by omega⟩
      have HM := Lib.hid hm
      have hmb : m ≤ 9223372036854775807 := by omega
      rw [← hm]
      clear hm
      by_cases hc : (wl (wn s q)).length ≤ m
      · have HC := Lib.hid (cntTo_succ s q)
        go_wp2_with (refine (pc_c (wn s q) (wn_le s q) _).mono ?_; rintro e w' ⟨rfl, rfl⟩)
        go_round
        case rel =>
          have e1 := HM.out
          exact ⟨q + 1, by omega, by go_num, by rw [HC.out]; omega, by rw [HC.out]; congr 1; omega⟩
        case measure => simp [intOf]; omega
      · go_wp2_with (refine (pc_c (wn s q) (wn_le s q) _).mono ?_; rintro e w' ⟨rfl, rfl⟩)
        obtain ⟨hN1, hy0, hres⟩ := nth_word s q hlt n hle (by rw [cntTo_succ]; have := HM.out; omega) _ rfl
        have em : (n - (cntTo s q : Int)).toNat = m := by have := HM.out; omega
        rw [em] at hy0 hres
        have HRES := Lib.hid hres; have HY0 := Lib.hid hy0; have HN1 := Lib.hid hN1
        have HW64 := Lib.hid (wn_lt s q)
        clear hres hy0 hN1 em
        go_loop [1, 7] (fun x y => ∃ j : Nat, j ≤ m ∧ x = .int .i64 ((m - j : Nat) : Int) ∧ y = .int .u64 (strike j (wn s q) : Nat)) (fun x _ => (intOf x).toNat)
        case atStart => exact ⟨0, by omega, rfl, rfl⟩
        case round =>
          obtain ⟨j, hj, rfl, rfl⟩ := hrel
          obtain ⟨y, hy⟩ : ∃ y, y = strike j (wn s q) := ⟨_, rfl⟩
          have hst := strike_lt j HW64.out
          rw [← hy] at hst
          rw [← hy]
          have hyle : y ≤ 18446744073709551615 := by omega
          by_cases hjm : j < m
          · have hys : y ≠ 0 := by
              rw [hy]; intro e
              have h1 := (strike_zero_iff j HW64.out).1 e
              omega
            have c1 := clear_u64 y hys hyle
            have HS := Lib.hid (strike_succ j (wn s q))
            rw [← hy] at HS
            obtain ⟨d, hd⟩ : ∃ d, m - j = d + 1 := ⟨m - j - 1, by omega⟩
            have HD := Lib.hid hd
            rw [hd]
            clear hd hy hst
            have hdb : d ≤ 9223372036854775806 := by have := HD.out; omega
            go_wp2_with fail
            go_round
            case rel => exact ⟨j + 1, by omega, by rw [show m - (j + 1) = d by have := HD.out; omega], by rw [HS.out]⟩
            case measure => simp [intOf]
          · obtain rfl : j = m := by omega
            have e0 : j - j = 0 := Nat.sub_self j
            rw [e0]
            rw [← hy] at HRES HY0
            have htz := (low_bit HY0.out hst).choose_spec.2
            have c2 := or_i64_add q (Lib.ctz 64 y) hlt htz
            obtain ⟨z, hz⟩ : ∃ z, z = Lib.ctz 64 y := ⟨_, rfl⟩
            clear e0 hy
            go_wp2_with fail
            refine (tz_c y hyle HY0.out _ (HT.out.alloc _)).mono ?_
            rintro e w1 ⟨rfl, rfl⟩
            rw [← hz] at htz c2 HRES ⊢
            clear hz
            go_wp2_with fail
            go_ret2
            exact ⟨by unfold nthV nthOk; rw [if_pos ⟨n0, HN1.out⟩, decide_eq_true n0, decide_eq_true HN1.out, ← HRES.out]; rfl, (Below.refl _ _).alloc (Nat.le_refl _) _⟩
    · obtain rfl : q = 4 := by omega
      rw [cntTo_four] at hle
      have h1 : ¬ (0 ≤ n ∧ n < (cnt s : Int)) := by omega
      have h2 : decide (n < (cnt s : Int)) = false := decide_eq_false (by omega)
      have H1 := Lib.hid h1; have H2 := Lib.hid h2
      clear h1 h2
      go_wp2_with fail
      go_ret2
      exact ⟨by unfold nthV nthOk; rw [if_neg H1.out, H2.out, Bool.and_false]; rfl, (Below.refl _ _).alloc (Nat.le_refl _) _⟩
theorem nth_neg (s : NS) (n : Int) (w : World) (h : n < 0) :
    Calls Tryd.prog 35 #[nsV s, .int .i64 n] w fun e w' => e = .returned (.tuple #[.int .i64 (nthV s n), .bool (nthOk s n)]) ∧ Below w.heap.size w w' := by
  have h1 : ¬ (0 ≤ n ∧ n < (cnt s : Int)) := by omega
  have h2 : decide (0 ≤ n) = false := decide_eq_false (by omega)
  have H1 := Lib.hid h1; have H2 := Lib.hid h2
  clear h1 h2
  go_enter Tryd.func35, Tryd.ntmps35
  go_wp2_with fail
  go_ret2
  exact ⟨by unfold nthV nthOk; rw [if_neg H1.out, H2.out, Bool.false_and]; rfl, (Below.refl _ _).alloc (Nat.le_refl _) _⟩
theorem nth_c (s : NS) (n : Int) (w : World) (hT : TabW w) (n1 : n ≤ 9223372036854775807) :
    Calls Tryd.prog 35 #[nsV s, .int .i64 n] w fun e w' => e = .returned (.tuple #[.int .i64 (nthV s n), .bool (nthOk s n)]) ∧ Below w.heap.size w w' := by
  by_cases h : n < 0
  · exact nth_neg s n w h
  · exact nth_in s n w hT (by omega) n1

/-! ### First -/
theorem first_below (s : NS) (n : Nat) (h : n < cnt s) : s &&& belowS ((lst s).getD n 0) = ofL ((lst s).take n) := ns_ext fun i hi => by
  have hl : n < (lst s).length := by rw [lst_length]; exact h
  have hs := lst_sorted s
  have hget : (lst s).getD n 0 = (lst s)[n] := by simp [List.getD_eq_getElem?_getD, List.getElem?_eq_getElem hl]
  rw [BitVec.getLsbD_and, belowS_bit, ofL_bit, decide_eq_true hi, Bool.true_and, Bool.true_and, hget]
  rw [Bool.eq_iff_iff, Bool.and_eq_true, decide_eq_true_eq, decide_eq_true_eq]
  have hmem : s.getLsbD i = true ↔ (i : Int) ∈ lst s := by rw [mem_lst, hasS_nat]
  rw [hmem]
  have hpw := List.pairwise_iff_getElem.1 hs
  constructor
  · rintro ⟨h1, h2⟩
    obtain ⟨j, hj, e⟩ := List.mem_iff_getElem.1 h1
    have hjn : j < n := by
      rcases Nat.lt_trichotomy j n with h3 | h3 | h3
      · exact h3
      · subst h3; omega
      · have := hpw n j hl hj h3; omega
    rw [List.mem_iff_getElem]
    exact ⟨j, by rw [List.length_take]; omega, by rw [List.getElem_take]; exact e⟩
  · intro h1
    obtain ⟨j, hj, e⟩ := List.mem_iff_getElem.1 h1
    rw [List.length_take] at hj
    rw [List.getElem_take] at e
    refine ⟨by rw [← e]; exact List.getElem_mem _, ?_⟩
    have := hpw j n (by omega) hl (by omega)
    omega
theorem first_all (s : NS) : ofL ((lst s).take (cnt s)) = s := by rw [← lst_length, List.take_length, ofL_lst]

theorem first_out (s : NS) (n : Int) (w : World) (h : n < 0 ∨ (cnt s : Int) < n) :
    Calls Tryd.prog 33 #[nsV s, .int .i64 n] w fun e w' => e = .returned (.tuple #[nsV emptyS, .bool false]) ∧ Below w.heap.size w w' := by
  rw [empty_val]
  rcases h with h | h
  · go_enter Tryd.func33, Tryd.ntmps33
    go_wp2_with fail
    exact post_cell_tmp rfl rfl rfl (Blk.new' (by simp)) Tryd.underlying24 rfl (by kernel_rfl) rfl ⟨rfl, ((Below.refl _ _).alloc (by simp) _).alloc (by simp) _⟩
  · have h0 : decide (n < 0) = false := decide_eq_false (by omega)
    go_enter Tryd.func33, Tryd.ntmps33
    go_wp2_with fail
    refine (count_c s _).mono ?_
    rintro e w1 ⟨rfl, hb⟩
    have HL := Lib.hid (below_then (((Below.refl w.heap.size w).alloc (by simp) _).alloc (by simp) _) (by simp; omega) hb)
    have HZ := Lib.hid ((Blk.new' (w := w.alloc (.cells (nsA s) 24)) (g := w.heap.size + 1) (t := 24) (cs := #[.int .u64 0, .int .u64 0, .int .u64 0, .int .u64 0]) (by simp)).after hb)
    obtain ⟨r1, r2, r3⟩ := HZ.out.rules
    clear hb
    go_wp2_with fail
    exact post_cell_tmp rfl rfl rfl (HZ.out.four _ _ _ _) Tryd.underlying24 rfl (by kernel_rfl) rfl ⟨rfl, below_four HL.out (by omega) _ _ _ _⟩
theorem first_full (s : NS) (w : World) (hT : TabW w) :
    Calls Tryd.prog 33 #[nsV s, .int .i64 (cnt s : Nat)] w fun e w' => e = .returned (.tuple #[nsV s, .bool true]) ∧ Below w.heap.size w w' := by
  have hn := nth_c s (cnt s)
  have hf : nthOk s (cnt s) = false := by simp [nthOk]
  rw [hf] at hn
  have HN := Lib.hid hn
  have HT := Lib.hid hT
  have hc := cnt_le s
  clear hn hf hT
  go_enter Tryd.func33, Tryd.ntmps33
  go_wp2_with fail
  refine (count_c s _).mono ?_
  rintro e w1 ⟨rfl, hb⟩
  have HL := Lib.hid (below_then (((Below.refl w.heap.size w).alloc (by simp) _).alloc (by simp) _) (by simp; omega) hb)
  have HZ := Lib.hid ((Blk.new' (w := w.alloc (.cells (nsA s) 24)) (g := w.heap.size + 1) (t := 24) (cs := #[.int .u64 0, .int .u64 0, .int .u64 0, .int .u64 0]) (by simp)).after hb)
  have HS := Lib.hid (((Blk.new' (w := w) (g := w.heap.size) (t := 24) (cs := nsA s) rfl).alloc (.cells #[.int .u64 0, .int .u64 0, .int .u64 0, .int .u64 0] 24)).after hb)
  have HT1 := Lib.hid (((HT.out.alloc _).alloc _).after hb)
  obtain ⟨r1, r2, r3⟩ := HS.out.rules
  clear hb
  go_wp2_with fail
  refine (HN.out _ HT1.out (by omega)).mono ?_
  rintro e w2 ⟨rfl, hb⟩
  have HL2 := Lib.hid (below_then HL.out HL.out.size hb)
  have HZ2 := Lib.hid (HZ.out.after hb)
  have HS2 := Lib.hid (HS.out.after hb)
  clear hb r1 r2 r3
  obtain ⟨r1, r2, r3⟩ := HS2.out.rules
  obtain ⟨q1, q2, q3⟩ := HZ2.out.rules
  go_wp2_with fail
  exact post_cell_tmp rfl rfl rfl (HZ2.out.four _ _ _ _) Tryd.underlying24 rfl (by kernel_rfl) rfl ⟨rfl, below_four HL2.out (by omega) _ _ _ _⟩
set_option maxHeartbeats 1000000 in
theorem first_in (s : NS) (n : Int) (w : World) (hT : TabW w) (n0 : 0 ≤ n) (n1 : n < cnt s) :
    Calls Tryd.prog 33 #[nsV s, .int .i64 n] w fun e w' => e = .returned (.tuple #[nsV (s &&& belowS ((lst s).getD n.toNat 0)), .bool true]) ∧ Below w.heap.size w w' := by
  have hn := nth_c s n
  have hc := cnt_le s
  have hf : nthOk s n = true := by simp [nthOk, n0, n1]
  have hf2 : nthV s n = (lst s).getD n.toNat 0 := by rw [nthV, if_pos ⟨n0, n1⟩]
  rw [hf, hf2] at hn
  obtain ⟨x, hx⟩ : ∃ x, x = (lst s).getD n.toNat 0 := ⟨_, rfl⟩
  have hxr : 0 ≤ x ∧ x ≤ 255 := lst_range (s := s) (by
    have hl : n.toNat < (lst s).length := by rw [lst_length]; omega
    rw [hx, List.getD_eq_getElem?_getD, List.getElem?_eq_getElem hl]; exact List.getElem_mem _)
  rw [← hx] at hn ⊢
  have HN := Lib.hid hn
  have HT := Lib.hid hT
  clear hn hf hf2 hT hx
  go_enter Tryd.func33, Tryd.ntmps33
  go_wp2_with fail
  refine (count_c s _).mono ?_
  rintro e w1 ⟨rfl, hb⟩
  have HL := Lib.hid (below_then (((Below.refl w.heap.size w).alloc (by simp) _).alloc (by simp) _) (by simp; omega) hb)
  have HZ := Lib.hid ((Blk.new' (w := w.alloc (.cells (nsA s) 24)) (g := w.heap.size + 1) (t := 24) (cs := #[.int .u64 0, .int .u64 0, .int .u64 0, .int .u64 0]) (by simp)).after hb)
  have HS := Lib.hid (((Blk.new' (w := w) (g := w.heap.size) (t := 24) (cs := nsA s) rfl).alloc (.cells #[.int .u64 0, .int .u64 0, .int .u64 0, .int .u64 0] 24)).after hb)
  have HT1 := Lib.hid (((HT.out.alloc _).alloc _).after hb)
  obtain ⟨r1, r2, r3⟩ := HS.out.rules
  clear hb
  go_wp2_with fail
  refine (HN.out _ HT1.out (by omega)).mono ?_
  rintro e w2 ⟨rfl, hb⟩
  have HL2 := Lib.hid (below_then HL.out HL.out.size hb)
  have HZ2 := Lib.hid (HZ.out.after hb)
  have HS2 := Lib.hid (HS.out.after hb)
  clear hb r1 r2 r3
  obtain ⟨r1, r2, r3⟩ := HS2.out.rules
  obtain ⟨x0, x1⟩ := hxr
  go_wp2_with fail
  go_region_law (first
    | (go_simp; (with_reducible refine (below_c x _ (by omega) (by omega)).mono ?_); rintro e w3 ⟨rfl, hb3⟩; obtain ⟨s1, s2, s3⟩ := (HS2.out.drew.after hb3).rules; have HB3 := Lib.hid hb3; clear hb3)
    | (go_simp; (with_reducible refine (and_c _ _ _).mono ?_); rintro e w4 ⟨rfl, hb4⟩
       have z2 := (HZ2.out.drew.after HB3.out).after hb4
       have l2 := below_then (HL2.out.drew) HL2.out.size HB3.out
       have HL4 := Lib.hid (below_then l2 l2.size hb4)
       have HZ4 := Lib.hid z2
       obtain ⟨q1, q2, q3⟩ := z2.rules
       clear z2 l2 hb4))
  all_goals
    go_wp2
    exact post_cell_tmp rfl rfl rfl (HZ4.out.four _ _ _ _) Tryd.underlying24 rfl (by kernel_rfl) rfl ⟨rfl, below_four HL4.out (by omega) _ _ _ _⟩
theorem first_c (s : NS) (n : Int) (w : World) (hT : TabW w) :
    Calls Tryd.prog 33 #[nsV s, .int .i64 n] w fun e w' => e = .returned (.tuple #[nsV (firstS s n), .bool (firstOk s n)]) ∧ Below w.heap.size w w' := by
  unfold firstS firstOk
  by_cases h : 0 ≤ n ∧ n ≤ cnt s
  · rw [if_pos h, decide_eq_true h.1, decide_eq_true h.2]
    by_cases h2 : n = cnt s
    · subst h2
      rw [Int.toNat_natCast, first_all]
      exact first_full s w hT
    · rw [← first_below s n.toNat (by omega)]
      exact first_in s n w hT h.1 (by omega)
  · rw [if_neg h]
    have hf : (decide (0 ≤ n) && decide (n ≤ (cnt s : Int))) = false := by simp; omega
    rw [hf]
    exact first_out s n w (by omega)
end Go.Proofs.YtmhbblkihjmonaaDoor
