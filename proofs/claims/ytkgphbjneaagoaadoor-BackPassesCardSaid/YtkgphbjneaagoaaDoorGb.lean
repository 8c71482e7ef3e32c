/- Back: Right. -/
import Derived.Test.YtkgphbjneaagoaaDoorGa
set_option linter.unusedVariables false
set_option maxRecDepth 100000
namespace Go.Proofs.YtkgphbjneaagoaaDoor
open Go.RowKit Go.Sort

def timeB (t : Int) : Bool := decide (0 ≤ t) && decide (t ≤ 1099511627776)
theorem isTime_c (t : Int) (w : World) : Calls Tryd.prog 38 #[.int .i64 t] w fun e w' => e = .returned (.bool (timeB t)) ∧ w = w' := by
  unfold timeB
  by_cases h0 : 0 ≤ t
  · by_cases h1 : t ≤ 1099511627776
    · go_enter Tryd.func38, Tryd.ntmps38
      go_wp2_with fail
      go_ret
      exact ⟨by simp [h0, h1], rfl⟩
    · have h1' : 1099511627776 < t := by omega
      go_enter Tryd.func38, Tryd.ntmps38
      go_wp2_with fail
      go_ret
      exact ⟨by simp [h1], rfl⟩
  · have h0' : t < 0 := by omega
    go_enter Tryd.func38, Tryd.ntmps38
    go_wp2_with fail
    go_ret
    exact ⟨by rw [show decide (0 ≤ t) = false from decide_eq_false (by omega)]; rfl, rfl⟩
theorem time_yes {t : Int} (h0 : 0 ≤ t) (h1 : t ≤ 1099511627776) : timeB t = true := by unfold timeB; simp [h0, h1]
theorem time_no {t : Int} (h : t < 0 ∨ 1099511627776 < t) : timeB t = false := by
  unfold timeB
  rcases h with h | h
  · have : ¬ 0 ≤ t := by omega
    simp [this]
  · have : ¬ t ≤ 1099511627776 := by omega
    simp [this]
theorem wf_i64 {x : Int} (h : -9223372036854775808 ≤ x ∧ x ≤ 9223372036854775807) : (Lit.int .i64 x).wf = true := by
  simp [Lit.wf, IntKind.min, IntKind.max, IntKind.signed, IntKind.bits]
  omega
set_option maxRecDepth 100000 in
set_option maxHeartbeats 32000000 in
theorem right_c (now : Int) (up : NS) (A : Option Addr) (n c : Nat) (rs : List Ru) (B : Option Addr) (m d : Nat) (ws : List Wi) (w : World) (hA : RdR w A n rs) (hB : RdW w B m ws) (hb : ∀ x ∈ ws, -9223372036854775808 ≤ x.id ∧ x.id ≤ 9223372036854775807) :
    Calls Tryd.prog 20 #[scV now up A n c B m d] w fun e w' => e = .returned (.bool (rightB now up rs ws)) ∧ Below w.heap.size w w' := by
  have HA := Lib.hid hA
  have HB := Lib.hid hB
  have HI := Lib.hid hb
  have hnI : (n : Int) ≤ 9223372036854775807 := by have := hA.2.1; omega
  have hmI : (m : Int) ≤ 9223372036854775807 := by have := hB.2.1; omega
  have HLr := Lib.hid (show rs.length = n from hA.1)
  have HLw := Lib.hid (show ws.length = m from hB.1)
  obtain ⟨b, hbb⟩ : ∃ b, b = rightB now up rs ws := ⟨_, rfl⟩
  have HBB := Lib.hid hbb
  rw [← hbb]
  clear hA hB hb hbb
  go_enter Tryd.func20, Tryd.ntmps20
  have HS0 := Lib.hid (Ms.nil w noB)
  by_cases hnow : now < 0 ∨ 1099511627776 < now
  · have hbf : b = false := by rw [HBB.out]; exact rightB_no (fun h => by have := h.n0; have := h.n1; omega)
    subst hbf
    have ht := time_no (t := now) (by omega)
    go_wp2_with (have hq := HS0; clear hq; (with_reducible refine atBox ?_); refine wpList_alloc_b rfl (some 1) rfl 38 ((scA now up A n c B m d)) (by kernel_rfl) ?_; intro g1 W1 hb hB hg; have HS1 := Lib.hid (HS0.out.new hb hB hg); clear hb hB hg HS0; obtain ⟨r0a, r0b, r0c⟩ := HS1.out.rules 0 rfl)
    refine (isTime_c now _).mono ?_
    rintro e w' ⟨rfl, rfl⟩
    rw [ht]
    go_wp2_with fail
    go_ret
    exact ⟨rfl, HS1.out.below⟩
  · have ht := time_yes (t := now) (by omega) (by omega)
    go_wp2_with (have hq := HS0; clear hq; (with_reducible refine atBox ?_); refine wpList_alloc_b rfl (some 1) rfl 38 ((scA now up A n c B m d)) (by kernel_rfl) ?_; intro g1 W1 hb hB hg; have HS1 := Lib.hid (HS0.out.new hb hB hg); clear hb hB hg HS0; obtain ⟨r0a, r0b, r0c⟩ := HS1.out.rules 0 rfl)
    refine (isTime_c now _).mono ?_
    rintro e w' ⟨rfl, rfl⟩
    rw [ht]
    by_cases hlr : 256 < n
    · have hlrI : (256 : Int) < (n : Int) := by omega
      have hbf : b = false := by rw [HBB.out]; exact rightB_no (fun h => by have := h.lr; have := HLr.out; omega)
      subst hbf
      go_wp2_with fail
      go_ret
      exact ⟨rfl, HS1.out.below⟩
    · have hlrI : (n : Int) ≤ 256 := by omega
      by_cases hlw : 1024 < m
      · have hlwI : (1024 : Int) < (m : Int) := by omega
        have hbf : b = false := by rw [HBB.out]; exact rightB_no (fun h => by have := h.lw; have := HLw.out; omega)
        subst hbf
        go_wp2_with fail
        go_ret
        exact ⟨rfl, HS1.out.below⟩
      · have hlwI : (m : Int) ≤ 1024 := by omega
        go_wp2_with (first
          | (have hq := HS1; clear hq; (with_reducible refine atLoad ?_); refine wpList_load_at rfl 24 _ rfl (HS1.out.at_ 0 rfl) 4 (.agg #[.int .u64 (wn up 0 : Nat), .int .u64 (wn up 1 : Nat), .int .u64 (wn up 2 : Nat), .int .u64 (wn up 3 : Nat)]) rfl _ Tryd.underlying24 rfl (by kernel_rfl) (Nat.le_of_ble_eq_true rfl) rfl ?_)
          | (have hq := HS1; clear hq; (with_reducible refine atAlloc ?_); refine wpList_alloc_b rfl (some 3) rfl 24 (#[.int .u64 0, .int .u64 0, .int .u64 0, .int .u64 0]) (by kernel_rfl) ?_; intro g2 W2 hb hB hg; have HS2 := Lib.hid (HS1.out.new hb hB hg); clear hb hB hg HS1; clear r0a r0b r0c)
          | (have hq := HS2; clear hq; (with_reducible refine atStore ?_); refine wpList_store_at rfl 24 _ _ rfl (HS2.out.at_ 1 rfl) (.agg #[.int .u64 (wn up 0 : Nat), .int .u64 (wn up 1 : Nat), .int .u64 (wn up 2 : Nat), .int .u64 (wn up 3 : Nat)]) rfl rfl (by kernel_rfl) (Nat.le_of_ble_eq_true rfl) (by kernel_rfl) ?_; intro W3 hB hP; have HS3 := Lib.hid (HS2.out.put 1 rfl (new := #[.int .u64 (wn up 0 : Nat), .int .u64 (wn up 1 : Nat), .int .u64 (wn up 2 : Nat), .int .u64 (wn up 3 : Nat)]) hB hP); clear hB hP HS2; obtain ⟨r0a, r0b, r0c⟩ := HS3.out.rules 0 rfl))
        go_loopw [30] (fun k wr => ∃ kk : Nat, kk ≤ n ∧ k = .int .i64 (kk : Nat) ∧ Hid (RunsOk up (rs.take kk)) ∧ Hid (Ms w noB [(.blk g1 38 (scA now up A n c B m d)), .blk g2 24 (nsA (leftS up (rs.take kk)))] wr)) (fun k _ => n - (intOf k).toNat)
        case atStart => exact ⟨0, by omega, rfl, Lib.hid ⟨fun r hr => by simp at hr, fun r hr => by simp at hr, List.Pairwise.nil⟩, HS3⟩
        case round =>
          obtain ⟨k, hkn, rfl, HR, HS4⟩ := hrel
          by_cases hlt : k < n
          · have hltI : (k : Int) < (n : Int) := by omega
            obtain ⟨ad, x, hAe, hx, hc⟩ := (HA.out.below HS4.out.below).at_ hlt
            subst hAe
            have HC := Lib.hid hc
            have HX := Lib.hid hx
            clear hc hx
            obtain ⟨L, hL⟩ : ∃ L, L = leftS up (rs.take k) := ⟨_, rfl⟩
            have HL := Lib.hid hL
            rw [← hL] at HS4
            clear hL
            go_wp2_with (first
              | (have hq := HC; clear hq; refine wpList_load_ad (by kernel_rfl) 77 _ rfl (ad.add (k * 5)) (ruL x) HC.out rfl _ (ruV x) rfl Tryd.underlying77 rfl (by kernel_rfl) ?_; clear HC)
              | (have hq := HS4; clear hq; (with_reducible refine atAlloc ?_); refine wpList_alloc_b rfl (some 5) rfl 77 (#[.int .u64 0, .int .u64 0, .int .u64 0, .int .u64 0, .int .i64 0]) (by kernel_rfl) ?_; intro g5 W5 hb hB hg; have HS5 := Lib.hid (HS4.out.new hb hB hg); clear hb hB hg HS4)
              | (have hq := HS5; clear hq; (with_reducible refine atStore ?_); refine wpList_store_at rfl 77 _ _ rfl (HS5.out.at_ 2 rfl) (ruV x) rfl rfl (by kernel_rfl) (Nat.le_of_ble_eq_true rfl) (by kernel_rfl) ?_; intro W6 hB hP; have HS6 := Lib.hid (HS5.out.put 2 rfl (new := (ruA x)) hB hP); clear hB hP HS5; obtain ⟨r2a, r2b, r2c⟩ := HS6.out.rules 2 rfl))
            refine (isTime_c x.end_ _).mono ?_
            rintro e w' ⟨rfl, rfl⟩
            by_cases he : x.end_ < 0 ∨ 1099511627776 < x.end_
            · have hbf : b = false := by rw [HBB.out]; exact rightB_no (fun h => runs_bad1 HX.out he h.runs)
              subst hbf
              rw [time_no he]
              go_wp2_with fail
              go_ret
              exact ⟨rfl, HS6.out.below⟩
            · rw [time_yes (t := x.end_) (by omega) (by omega)]
              by_cases hz : notS x.nodes L = emptyS
              · have HEQ := Lib.hid (fun w9 => show (Op.equalIn 10000 24 (nsV (notS x.nodes L)) (nsV emptyS)).run Tryd.prog w9 = .ok true w9 by rw [eqNs_run, hz]; simp)
                have HR2 := Lib.hid (runs_step HX.out HR.out (by omega) (by omega) (HL.out ▸ hz))
                have HL2 := Lib.hid (show notS L x.nodes = leftS up (rs.take (k + 1)) by rw [take_one HX.out, leftS_snoc, ← HL.out])
                go_wp2_with (first
                  | (have hq := HS6; clear hq; refine wpList_load_g (by kernel_rfl) 24 _ rfl (HS6.out.at_ 2 rfl) 4 (.agg #[.int .u64 (wn x.nodes 0 : Nat), .int .u64 (wn x.nodes 1 : Nat), .int .u64 (wn x.nodes 2 : Nat), .int .u64 (wn x.nodes 3 : Nat)]) rfl _ Tryd.underlying24 rfl (by kernel_rfl) (Nat.le_of_ble_eq_true rfl) rfl ?_)
                  | (have hq := HS6; clear hq; refine wpList_load_g (by kernel_rfl) 24 _ rfl (HS6.out.at_ 1 rfl) 4 (nsV L) rfl _ Tryd.underlying24 rfl (by kernel_rfl) (Nat.le_of_ble_eq_true rfl) rfl ?_))
                refine (not_c x.nodes L _).mono ?_
                rintro e W7 ⟨rfl, hb⟩
                have HS7 := Lib.hid (HS6.out.after hb)
                clear hb HS6 r2a r2b r2c
                go_wp2_with (first
                  | (have hq := HS7; clear hq; refine wpList_neq (by kernel_rfl) 24 _ _ _ rfl rfl rfl (by kernel_rfl) true (HEQ.out _) ?_)
                  | (have hq := HS7; clear hq; (with_reducible refine atLoad ?_); refine wpList_load_at rfl 24 _ rfl (HS7.out.at_ 1 rfl) 4 (nsV L) rfl _ Tryd.underlying24 rfl (by kernel_rfl) (Nat.le_of_ble_eq_true rfl) rfl ?_)
                  | (have hq := HS7; clear hq; (with_reducible refine atLoad ?_); refine wpList_load_at rfl 24 _ rfl (HS7.out.at_ 2 rfl) 4 (.agg #[.int .u64 (wn x.nodes 0 : Nat), .int .u64 (wn x.nodes 1 : Nat), .int .u64 (wn x.nodes 2 : Nat), .int .u64 (wn x.nodes 3 : Nat)]) rfl _ Tryd.underlying24 rfl (by kernel_rfl) (Nat.le_of_ble_eq_true rfl) rfl ?_))
                refine (not_c L x.nodes _).mono ?_
                rintro e W8 ⟨rfl, hb⟩
                have HS8 := Lib.hid (HS7.out.after hb)
                clear hb HS7
                go_wp2_with (have hq := HS8; clear hq; (with_reducible refine atStore ?_); refine wpList_store_at rfl 24 _ _ rfl (HS8.out.at_ 1 rfl) (nsV (notS L x.nodes)) rfl rfl (by kernel_rfl) (Nat.le_of_ble_eq_true rfl) (by kernel_rfl) ?_; intro W9 hB hP; have HS9 := Lib.hid (HS8.out.put 1 rfl (new := (nsA (notS L x.nodes))) hB hP); clear hB hP HS8)
                refine ⟨⟨k + 1, by omega, by go_num, HR2, ?_⟩, by simp [intOf]; omega⟩
                rw [← HL2.out]
                exact Lib.hid (Ms.cut (l := [(.blk g1 38 (scA now up (some ad) n c B m d)), (.blk g2 24 (nsA (notS L x.nodes)))]) (k := [(.blk g5 77 (ruA x))]) HS9.out)
              · have HEQ := Lib.hid (fun w9 => show (Op.equalIn 10000 24 (nsV (notS x.nodes L)) (nsV emptyS)).run Tryd.prog w9 = .ok false w9 by rw [eqNs_run]; simp [hz])
                have hbf : b = false := by rw [HBB.out]; exact rightB_no (fun h => runs_bad2 HX.out (fun e => hz (HL.out ▸ e)) h.runs)
                subst hbf
                go_wp2_with (first
                  | (have hq := HS6; clear hq; refine wpList_load_g (by kernel_rfl) 24 _ rfl (HS6.out.at_ 2 rfl) 4 (.agg #[.int .u64 (wn x.nodes 0 : Nat), .int .u64 (wn x.nodes 1 : Nat), .int .u64 (wn x.nodes 2 : Nat), .int .u64 (wn x.nodes 3 : Nat)]) rfl _ Tryd.underlying24 rfl (by kernel_rfl) (Nat.le_of_ble_eq_true rfl) rfl ?_)
                  | (have hq := HS6; clear hq; refine wpList_load_g (by kernel_rfl) 24 _ rfl (HS6.out.at_ 1 rfl) 4 (nsV L) rfl _ Tryd.underlying24 rfl (by kernel_rfl) (Nat.le_of_ble_eq_true rfl) rfl ?_))
                refine (not_c x.nodes L _).mono ?_
                rintro e W7 ⟨rfl, hb⟩
                have HS7 := Lib.hid (HS6.out.after hb)
                clear hb HS6 r2a r2b r2c
                go_wp2_with (have hq := HS7; clear hq; refine wpList_neq (by kernel_rfl) 24 _ _ _ rfl rfl rfl (by kernel_rfl) false (HEQ.out _) ?_)
                go_ret
                exact ⟨rfl, HS7.out.below⟩
          · obtain rfl : n = k := by omega
            have HRO := Lib.hid (show RunsOk up rs by have h := HR.out; rw [List.take_of_length_le (by rw [HLr.out]; exact Nat.le_refl _)] at h; exact h)
            go_wp2_with (have hq := HS4; clear hq; refine wpList_makeIds HS4.out rfl (some 51) rfl (by kernel_rfl) ?_; intro bm W5 hM; have HS5 := Lib.hid hM; clear hM HS4; obtain ⟨r0a, r0b, r0c⟩ := HS5.out.rules 0 rfl)
            go_loopw [55] (fun k wr => ∃ kk : Nat, kk ≤ m ∧ k = .int .i64 (kk : Nat) ∧ Hid (WishOk (ws.take kk)) ∧ Hid (Ms w noB [(.blk g1 38 (scA now up A n c B m d)), (.blk g2 24 (nsA (leftS up (rs.take n)))), .ids bm kk ((ws.take kk).map Wi.id)] wr)) (fun k _ => m - (intOf k).toNat)
            case atStart => exact ⟨0, by omega, rfl, Lib.hid ⟨fun r hr => by simp at hr, List.Pairwise.nil⟩, HS5⟩
            case round =>
              obtain ⟨k, hkm, rfl, HW, HS6⟩ := hrel
              by_cases hlt : k < m
              · have hltI : (k : Int) < (m : Int) := by omega
                obtain ⟨ad, x, hAe, hx, hc⟩ := (HB.out.below HS6.out.below).at_ hlt
                subst hAe
                have HC := Lib.hid hc
                have HX := Lib.hid hx
                have HXI := Lib.hid (wf_i64 (HI.out x (List.mem_of_getElem? hx)))
                clear hc hx
                by_cases c0 : x.id < 1
                · have hbf : b = false := by rw [HBB.out]; exact rightB_no (fun h => wish_bad1 HX.out (fun h => by have := h.id; omega) h.wish)
                  subst hbf
                  go_wp2_with (first
                    | (have hq := HC; clear hq; refine wpList_load_ad (by kernel_rfl) 68 _ rfl (ad.add (k * 7)) (wiL x) HC.out rfl _ (wiV x) rfl Tryd.underlying68 rfl (by kernel_rfl) ?_; clear HC)
                    | (have hq := HS6; clear hq; (with_reducible refine atAlloc ?_); refine wpList_alloc_b rfl (some 8) rfl 68 (#[.int .i64 0, .int .i64 0, .int .i64 0, .int .u64 0, .int .u64 0, .int .u64 0, .int .u64 0]) (by kernel_rfl) ?_; intro g7 W7 hb hB hg; have HS7 := Lib.hid (HS6.out.new hb hB hg); clear hb hB hg HS6)
                    | (have hq := HS7; clear hq; (with_reducible refine atStore ?_); refine wpList_store_at rfl 68 _ _ rfl (HS7.out.at_ 3 rfl) (wiV x) rfl rfl (by kernel_rfl) (Nat.le_of_ble_eq_true rfl) (by kernel_rfl) ?_; intro W8 hB hP; have HS8 := Lib.hid (HS7.out.put 3 rfl (new := (wiA x)) hB hP); clear hB hP HS7; obtain ⟨r3a, r3b, r3c⟩ := HS8.out.rules 3 rfl))
                  go_ret
                  exact ⟨rfl, HS8.out.below⟩
                · have c0n : 1 ≤ x.id := by omega
                  by_cases cm : x.id ∈ (ws.take k).map Wi.id
                  · have hbf : b = false := by rw [HBB.out]; exact rightB_no (fun h => wish_bad2 HX.out cm h.wish)
                    subst hbf
                    go_wp2_with (first
                      | (have hq := HC; clear hq; refine wpList_load_ad (by kernel_rfl) 68 _ rfl (ad.add (k * 7)) (wiL x) HC.out rfl _ (wiV x) rfl Tryd.underlying68 rfl (by kernel_rfl) ?_; clear HC)
                      | (have hq := HS6; clear hq; (with_reducible refine atAlloc ?_); refine wpList_alloc_b rfl (some 8) rfl 68 (#[.int .i64 0, .int .i64 0, .int .i64 0, .int .u64 0, .int .u64 0, .int .u64 0, .int .u64 0]) (by kernel_rfl) ?_; intro g7 W7 hb hB hg; have HS7 := Lib.hid (HS6.out.new hb hB hg); clear hb hB hg HS6)
                      | (have hq := HS7; clear hq; (with_reducible refine atStore ?_); refine wpList_store_at rfl 68 _ _ rfl (HS7.out.at_ 3 rfl) (wiV x) rfl rfl (by kernel_rfl) (Nat.le_of_ble_eq_true rfl) (by kernel_rfl) ?_; intro W8 hB hP; have HS8 := Lib.hid (HS7.out.put 3 rfl (new := (wiA x)) hB hP); clear hB hP HS7; obtain ⟨r3a, r3b, r3c⟩ := HS8.out.rules 3 rfl)
                      | (have hq := HS8; clear hq; refine wpList_lookupIds HS8.out 2 rfl (by kernel_rfl) _ _ 90 Tryd.underlying90 rfl x.id rfl rfl HXI.out true (decide_eq_true cm) ?_))
                    go_ret
                    exact ⟨rfl, HS8.out.below⟩
                  · by_cases d0 : x.n < 1
                    · have hbf : b = false := by rw [HBB.out]; exact rightB_no (fun h => wish_bad1 HX.out (fun h => by have := h.n0; omega) h.wish)
                      subst hbf
                      go_wp2_with (first
                        | (have hq := HC; clear hq; refine wpList_load_ad (by kernel_rfl) 68 _ rfl (ad.add (k * 7)) (wiL x) HC.out rfl _ (wiV x) rfl Tryd.underlying68 rfl (by kernel_rfl) ?_; clear HC)
                        | (have hq := HS6; clear hq; (with_reducible refine atAlloc ?_); refine wpList_alloc_b rfl (some 8) rfl 68 (#[.int .i64 0, .int .i64 0, .int .i64 0, .int .u64 0, .int .u64 0, .int .u64 0, .int .u64 0]) (by kernel_rfl) ?_; intro g7 W7 hb hB hg; have HS7 := Lib.hid (HS6.out.new hb hB hg); clear hb hB hg HS6)
                        | (have hq := HS7; clear hq; (with_reducible refine atStore ?_); refine wpList_store_at rfl 68 _ _ rfl (HS7.out.at_ 3 rfl) (wiV x) rfl rfl (by kernel_rfl) (Nat.le_of_ble_eq_true rfl) (by kernel_rfl) ?_; intro W8 hB hP; have HS8 := Lib.hid (HS7.out.put 3 rfl (new := (wiA x)) hB hP); clear hB hP HS7; obtain ⟨r3a, r3b, r3c⟩ := HS8.out.rules 3 rfl)
                        | (have hq := HS8; clear hq; refine wpList_lookupIds HS8.out 2 rfl (by kernel_rfl) _ _ 90 Tryd.underlying90 rfl x.id rfl rfl HXI.out false (decide_eq_false cm) ?_))
                      go_ret
                      exact ⟨rfl, HS8.out.below⟩
                    · have d0n : 1 ≤ x.n := by omega
                      by_cases d1 : 256 < x.n
                      · have hbf : b = false := by rw [HBB.out]; exact rightB_no (fun h => wish_bad1 HX.out (fun h => by have := h.n1; omega) h.wish)
                        subst hbf
                        go_wp2_with (first
                          | (have hq := HC; clear hq; refine wpList_load_ad (by kernel_rfl) 68 _ rfl (ad.add (k * 7)) (wiL x) HC.out rfl _ (wiV x) rfl Tryd.underlying68 rfl (by kernel_rfl) ?_; clear HC)
                          | (have hq := HS6; clear hq; (with_reducible refine atAlloc ?_); refine wpList_alloc_b rfl (some 8) rfl 68 (#[.int .i64 0, .int .i64 0, .int .i64 0, .int .u64 0, .int .u64 0, .int .u64 0, .int .u64 0]) (by kernel_rfl) ?_; intro g7 W7 hb hB hg; have HS7 := Lib.hid (HS6.out.new hb hB hg); clear hb hB hg HS6)
                          | (have hq := HS7; clear hq; (with_reducible refine atStore ?_); refine wpList_store_at rfl 68 _ _ rfl (HS7.out.at_ 3 rfl) (wiV x) rfl rfl (by kernel_rfl) (Nat.le_of_ble_eq_true rfl) (by kernel_rfl) ?_; intro W8 hB hP; have HS8 := Lib.hid (HS7.out.put 3 rfl (new := (wiA x)) hB hP); clear hB hP HS7; obtain ⟨r3a, r3b, r3c⟩ := HS8.out.rules 3 rfl)
                          | (have hq := HS8; clear hq; refine wpList_lookupIds HS8.out 2 rfl (by kernel_rfl) _ _ 90 Tryd.underlying90 rfl x.id rfl rfl HXI.out false (decide_eq_false cm) ?_))
                        go_ret
                        exact ⟨rfl, HS8.out.below⟩
                      · have d1n : x.n ≤ 256 := by omega
                        by_cases d2 : x.long < 1
                        · have hbf : b = false := by rw [HBB.out]; exact rightB_no (fun h => wish_bad1 HX.out (fun h => by have := h.l0; omega) h.wish)
                          subst hbf
                          go_wp2_with (first
                            | (have hq := HC; clear hq; refine wpList_load_ad (by kernel_rfl) 68 _ rfl (ad.add (k * 7)) (wiL x) HC.out rfl _ (wiV x) rfl Tryd.underlying68 rfl (by kernel_rfl) ?_; clear HC)
                            | (have hq := HS6; clear hq; (with_reducible refine atAlloc ?_); refine wpList_alloc_b rfl (some 8) rfl 68 (#[.int .i64 0, .int .i64 0, .int .i64 0, .int .u64 0, .int .u64 0, .int .u64 0, .int .u64 0]) (by kernel_rfl) ?_; intro g7 W7 hb hB hg; have HS7 := Lib.hid (HS6.out.new hb hB hg); clear hb hB hg HS6)
                            | (have hq := HS7; clear hq; (with_reducible refine atStore ?_); refine wpList_store_at rfl 68 _ _ rfl (HS7.out.at_ 3 rfl) (wiV x) rfl rfl (by kernel_rfl) (Nat.le_of_ble_eq_true rfl) (by kernel_rfl) ?_; intro W8 hB hP; have HS8 := Lib.hid (HS7.out.put 3 rfl (new := (wiA x)) hB hP); clear hB hP HS7; obtain ⟨r3a, r3b, r3c⟩ := HS8.out.rules 3 rfl)
                            | (have hq := HS8; clear hq; refine wpList_lookupIds HS8.out 2 rfl (by kernel_rfl) _ _ 90 Tryd.underlying90 rfl x.id rfl rfl HXI.out false (decide_eq_false cm) ?_))
                          go_ret
                          exact ⟨rfl, HS8.out.below⟩
                        · have d2n : 1 ≤ x.long := by omega
                          by_cases d3 : 1048576 < x.long
                          · have hbf : b = false := by rw [HBB.out]; exact rightB_no (fun h => wish_bad1 HX.out (fun h => by have := h.l1; omega) h.wish)
                            subst hbf
                            go_wp2_with (first
                              | (have hq := HC; clear hq; refine wpList_load_ad (by kernel_rfl) 68 _ rfl (ad.add (k * 7)) (wiL x) HC.out rfl _ (wiV x) rfl Tryd.underlying68 rfl (by kernel_rfl) ?_; clear HC)
                              | (have hq := HS6; clear hq; (with_reducible refine atAlloc ?_); refine wpList_alloc_b rfl (some 8) rfl 68 (#[.int .i64 0, .int .i64 0, .int .i64 0, .int .u64 0, .int .u64 0, .int .u64 0, .int .u64 0]) (by kernel_rfl) ?_; intro g7 W7 hb hB hg; have HS7 := Lib.hid (HS6.out.new hb hB hg); clear hb hB hg HS6)
                              | (have hq := HS7; clear hq; (with_reducible refine atStore ?_); refine wpList_store_at rfl 68 _ _ rfl (HS7.out.at_ 3 rfl) (wiV x) rfl rfl (by kernel_rfl) (Nat.le_of_ble_eq_true rfl) (by kernel_rfl) ?_; intro W8 hB hP; have HS8 := Lib.hid (HS7.out.put 3 rfl (new := (wiA x)) hB hP); clear hB hP HS7; obtain ⟨r3a, r3b, r3c⟩ := HS8.out.rules 3 rfl)
                              | (have hq := HS8; clear hq; refine wpList_lookupIds HS8.out 2 rfl (by kernel_rfl) _ _ 90 Tryd.underlying90 rfl x.id rfl rfl HXI.out false (decide_eq_false cm) ?_))
                            go_ret
                            exact ⟨rfl, HS8.out.below⟩
                          · have d3n : x.long ≤ 1048576 := by omega
                            have HW2 := Lib.hid (wish_step HX.out HW.out ⟨by omega, by omega, by omega, by omega, by omega⟩ cm)
                            have HID := Lib.hid (show (ws.take k).map Wi.id ++ [x.id] = (ws.take (k + 1)).map Wi.id by rw [take_one HX.out, List.map_append]; rfl)
                            go_wp2_with (first
                              | (have hq := HC; clear hq; refine wpList_load_ad (by kernel_rfl) 68 _ rfl (ad.add (k * 7)) (wiL x) HC.out rfl _ (wiV x) rfl Tryd.underlying68 rfl (by kernel_rfl) ?_; clear HC)
                              | (have hq := HS6; clear hq; (with_reducible refine atAlloc ?_); refine wpList_alloc_b rfl (some 8) rfl 68 (#[.int .i64 0, .int .i64 0, .int .i64 0, .int .u64 0, .int .u64 0, .int .u64 0, .int .u64 0]) (by kernel_rfl) ?_; intro g7 W7 hb hB hg; have HS7 := Lib.hid (HS6.out.new hb hB hg); clear hb hB hg HS6)
                              | (have hq := HS7; clear hq; (with_reducible refine atStore ?_); refine wpList_store_at rfl 68 _ _ rfl (HS7.out.at_ 3 rfl) (wiV x) rfl rfl (by kernel_rfl) (Nat.le_of_ble_eq_true rfl) (by kernel_rfl) ?_; intro W8 hB hP; have HS8 := Lib.hid (HS7.out.put 3 rfl (new := (wiA x)) hB hP); clear hB hP HS7; obtain ⟨r3a, r3b, r3c⟩ := HS8.out.rules 3 rfl)
                              | (have hq := HS8; clear hq; refine wpList_lookupIds HS8.out 2 rfl (by kernel_rfl) _ _ 90 Tryd.underlying90 rfl x.id rfl rfl HXI.out false (decide_eq_false cm) ?_)
                              | (have hq := HS8; clear hq; refine wpList_putIds HS8.out 2 rfl rfl _ _ _ 90 Tryd.underlying90 rfl x.id rfl rfl rfl HXI.out (by simp only [maxLen]; omega) _ HID.out ?_; intro W9 hM; have HS9 := Lib.hid hM; clear hM HS8; clear r3a r3b r3c))
                            refine ⟨⟨k + 1, by omega, by go_num, HW2, ?_⟩, by simp [intOf]; omega⟩
                            exact Lib.hid (Ms.cut (l := [(.blk g1 38 (scA now up A n c (some ad) m d)), (.blk g2 24 (nsA (leftS up (rs.take n)))), .ids bm (k + 1) ((ws.take (k + 1)).map Wi.id)]) (k := [(.blk g7 68 (wiA x))]) HS9.out)
              · obtain rfl : k = m := by omega
                have hbt : b = true := by rw [HBB.out]; exact rightB_yes ⟨by omega, by omega, by rw [HLr.out]; omega, by rw [HLw.out]; omega, HRO.out, by have h := HW.out; rw [List.take_of_length_le (by rw [HLw.out]; exact Nat.le_refl _)] at h; exact h⟩
                subst hbt
                go_wp2_with fail
                go_ret
                exact ⟨rfl, HS6.out.below⟩
end Go.Proofs.YtkgphbjneaagoaaDoor
