/- Back: the document's Right. -/
import Derived.Test.YtkgphbjneaagoaaDoorYD
set_option linter.unusedVariables false
set_option maxRecDepth 100000
namespace Go.Proofs.YtkgphbjneaagoaaDoor
open Go.RowKit Go.Sort

def allS (rs : List Ru) : NS := rs.foldl (fun a r => a ||| r.nodes) emptyS
theorem allS_snoc (rs : List Ru) (r : Ru) : allS (rs ++ [r]) = allS rs ||| r.nodes := by unfold allS; rw [List.foldl_append]; rfl
theorem allS_bit {i : Nat} : ∀ rs : List Ru, (allS rs).getLsbD i = true ↔ ∃ r ∈ rs, r.nodes.getLsbD i = true := by
  refine snoc_ind (by unfold allS; simp [empty_bit]) (fun rs r ih => ?_)
  rw [allS_snoc, BitVec.getLsbD_or, Bool.or_eq_true, ih]
  constructor
  · rintro (⟨x, hx, h⟩ | h)
    · exact ⟨x, List.mem_append_left _ hx, h⟩
    · exact ⟨r, by simp, h⟩
  · rintro ⟨x, hx, h⟩
    rcases List.mem_append.1 hx with h1 | h1
    · exact .inl ⟨x, h1, h⟩
    · simp at h1; subst h1; exact .inr h
/-- What the document asks of one more is what the code asks. -/
theorem left_iff (up : NS) (l : List Ru) (x : NS) : notS x (leftS up l) = emptyS ↔ (allS l &&& x = emptyS ∧ notS x up = emptyS) := by
  constructor
  · intro h
    have key : ∀ i, i < 256 → x.getLsbD i = true → up.getLsbD i = true ∧ ∀ r ∈ l, r.nodes.getLsbD i = false := fun i hi h1 => by
      have h2 : (notS x (leftS up l)).getLsbD i = false := by rw [h]; exact empty_bit i
      rw [notS_bit _ _ _ hi, h1, Bool.true_and] at h2
      exact (leftS_bit up hi _).1 (by simpa using h2)
    refine ⟨ns_ext fun i hi => ?_, ns_ext fun i hi => ?_⟩
    · rw [BitVec.getLsbD_and, empty_bit]
      cases h1 : x.getLsbD i
      · simp
      · cases h2 : (allS l).getLsbD i
        · rfl
        · obtain ⟨r, hr, h3⟩ := (allS_bit l).1 h2
          rw [(key i hi h1).2 r hr] at h3; cases h3
    · rw [notS_bit _ _ _ hi, empty_bit]
      cases h1 : x.getLsbD i
      · rfl
      · rw [(key i hi h1).1]; rfl
  · rintro ⟨h1, h2⟩
    refine ns_ext fun i hi => ?_
    rw [notS_bit _ _ _ hi, empty_bit]
    cases h3 : x.getLsbD i
    · rfl
    · have h4 : (leftS up l).getLsbD i = true := by
        refine (leftS_bit up hi _).2 ⟨?_, fun r hr => ?_⟩
        · have h5 : (notS x up).getLsbD i = false := by rw [h2]; exact empty_bit i
          rw [notS_bit _ _ _ hi, h3, Bool.true_and] at h5
          simpa using h5
        · cases h5 : r.nodes.getLsbD i
          · rfl
          · have h6 : (allS l &&& x).getLsbD i = false := by rw [h1]; exact empty_bit i
            rw [BitVec.getLsbD_and, (allS_bit l).2 ⟨r, hr, h5⟩, h3] at h6
            cases h6
      rw [h4]; rfl
theorem wi_id {W : World} {ad : Addr} {m : Nat} {ws : List Wi} (h : RdW W (some ad) m ws) {j : Nat} {y : Wi} (hj : j < m) (hy : ws[j]? = some y) : W.cell? (ad.add (j * 7)) = some (.int .i64 y.id) := by
  obtain ⟨ad2, x, e, hx, hc⟩ := h.at_ hj
  cases e
  rw [hy] at hx
  cases hx
  have e9 := hc 0 _ rfl
  rwa [Addr.add_zero'] at e9
set_option maxHeartbeats 32000000 in
theorem dright_c (now : Int) (up : NS) (A : Option Addr) (n c : Nat) (rs : List Ru) (B : Option Addr) (m d : Nat) (ws : List Wi) (w : World) (hA : RdR w A n rs) (hB : RdW w B m ws) :
    Calls Tryd.prog 21 #[scV now up A n c B m d] w fun e w' => e = .returned (.bool (rightB now up rs ws)) ∧ Below w.heap.size w w' := by
  have HA := Lib.hid hA
  have HB := Lib.hid hB
  have hnI : (n : Int) ≤ 9223372036854775807 := by have := hA.2.1; omega
  have hmI : (m : Int) ≤ 9223372036854775807 := by have := hB.2.1; omega
  have HLr := Lib.hid (show rs.length = n from hA.1)
  have HLw := Lib.hid (show ws.length = m from hB.1)
  obtain ⟨b, hbb⟩ : ∃ b, b = rightB now up rs ws := ⟨_, rfl⟩
  have HBB := Lib.hid hbb
  rw [← hbb]
  clear hA hB hbb
  go_enter Tryd.func21, Tryd.ntmps21
  have HS0 := Lib.hid (Ms.nil w noB)
  by_cases hneg : now < 0
  · have hbf : b = false := by rw [HBB.out]; exact rightB_no (fun h => by have := h.n0; omega)
    subst hbf
    go_wp2_with (have hq := HS0; clear hq; (with_reducible refine atBox ?_); refine wpList_alloc_b rfl (some 1) rfl 28 ((scA now up A n c B m d)) (by kernel_rfl) ?_; intro g1 W1 hb hB hg; have HS1 := Lib.hid (HS0.out.new hb hB hg); clear hb hB hg HS0; obtain ⟨r0a, r0b, r0c⟩ := HS1.out.rules 0 rfl)
    go_ret
    exact ⟨rfl, HS1.out.below⟩
  · have hn0 : 0 ≤ now := by omega
    by_cases hn1 : 1099511627776 < now
    · have hbf : b = false := by rw [HBB.out]; exact rightB_no (fun h => by have := h.n1; omega)
      subst hbf
      go_wp2_with (have hq := HS0; clear hq; (with_reducible refine atBox ?_); refine wpList_alloc_b rfl (some 1) rfl 28 ((scA now up A n c B m d)) (by kernel_rfl) ?_; intro g1 W1 hb hB hg; have HS1 := Lib.hid (HS0.out.new hb hB hg); clear hb hB hg HS0; obtain ⟨r0a, r0b, r0c⟩ := HS1.out.rules 0 rfl)
      go_ret
      exact ⟨rfl, HS1.out.below⟩
    · have hn2 : now ≤ 1099511627776 := by omega
      by_cases hlr : 256 < n
      · have hlrI : (256 : Int) < (n : Int) := by omega
        have hbf : b = false := by rw [HBB.out]; exact rightB_no (fun h => by have := h.lr; have := HLr.out; omega)
        subst hbf
        go_wp2_with (have hq := HS0; clear hq; (with_reducible refine atBox ?_); refine wpList_alloc_b rfl (some 1) rfl 28 ((scA now up A n c B m d)) (by kernel_rfl) ?_; intro g1 W1 hb hB hg; have HS1 := Lib.hid (HS0.out.new hb hB hg); clear hb hB hg HS0; obtain ⟨r0a, r0b, r0c⟩ := HS1.out.rules 0 rfl)
        go_ret
        exact ⟨rfl, HS1.out.below⟩
      · have hlrI : (n : Int) ≤ 256 := by omega
        by_cases hlw : 1024 < m
        · have hlwI : (1024 : Int) < (m : Int) := by omega
          have hbf : b = false := by rw [HBB.out]; exact rightB_no (fun h => by have := h.lw; have := HLw.out; omega)
          subst hbf
          go_wp2_with (have hq := HS0; clear hq; (with_reducible refine atBox ?_); refine wpList_alloc_b rfl (some 1) rfl 28 ((scA now up A n c B m d)) (by kernel_rfl) ?_; intro g1 W1 hb hB hg; have HS1 := Lib.hid (HS0.out.new hb hB hg); clear hb hB hg HS0; obtain ⟨r0a, r0b, r0c⟩ := HS1.out.rules 0 rfl)
          go_ret
          exact ⟨rfl, HS1.out.below⟩
        · have hlwI : (m : Int) ≤ 1024 := by omega
          go_wp2_with (first
            | (have hq := HS0; clear hq; (with_reducible refine atBox ?_); refine wpList_alloc_b rfl (some 1) rfl 28 ((scA now up A n c B m d)) (by kernel_rfl) ?_; intro g1 W1 hb hB hg; have HS1 := Lib.hid (HS0.out.new hb hB hg); clear hb hB hg HS0; obtain ⟨r0a, r0b, r0c⟩ := HS1.out.rules 0 rfl)
            | (have hq := HS1; clear hq; (with_reducible refine atAlloc ?_); refine wpList_alloc_b rfl (some 3) rfl 24 (#[.int .u64 0, .int .u64 0, .int .u64 0, .int .u64 0]) (by kernel_rfl) ?_; intro g2 W2 hb hB hg; have HS2 := Lib.hid (HS1.out.new hb hB hg); clear hb hB hg HS1; clear r0a r0b r0c)
            | (have hq := HS2; clear hq; (with_reducible refine atStore ?_); refine wpList_store_at rfl 24 _ _ rfl (HS2.out.at_ 1 rfl) (.agg #[.int .u64 0, .int .u64 0, .int .u64 0, .int .u64 0]) rfl rfl (by kernel_rfl) (Nat.le_of_ble_eq_true rfl) (by kernel_rfl) ?_; intro W3 hB hP; have HS3 := Lib.hid (HS2.out.put 1 rfl (new := #[.int .u64 0, .int .u64 0, .int .u64 0, .int .u64 0]) hB hP); clear hB hP HS2))
          go_loopw [4] (fun k wr => ∃ kk : Nat, kk ≤ n ∧ k = .int .i64 (kk : Nat) ∧ Hid (RunsOk up (rs.take kk)) ∧ Hid (Ms w noB [(.blk g1 28 (scA now up A n c B m d)), .blk g2 24 (nsA (allS (rs.take kk)))] wr)) (fun k _ => n - (intOf k).toNat)
          case atStart => exact ⟨0, by omega, rfl, Lib.hid ⟨fun r hr => by simp at hr, fun r hr => by simp at hr, List.Pairwise.nil⟩, Lib.hid (by rw [show nsA (allS (rs.take 0)) = #[.int .u64 0, .int .u64 0, .int .u64 0, .int .u64 0] by rw [List.take_zero]; kernel_rfl]; exact HS3.out)⟩
          case round =>
            obtain ⟨k, hkn, rfl, HR, HS4⟩ := hrel
            by_cases hlt : k < n
            · have hltI : (k : Int) < (n : Int) := by omega
              obtain ⟨ad, x, hAe, hx, hc⟩ := (HA.out.below HS4.out.below).at_ hlt
              subst hAe
              have HC := Lib.hid hc
              have HX := Lib.hid hx
              clear hc hx
              obtain ⟨L, hL⟩ : ∃ L, L = allS (rs.take k) := ⟨_, rfl⟩
              have HL := Lib.hid hL
              rw [← hL] at HS4
              clear hL
              by_cases e0 : x.end_ < 0
              · have hbf : b = false := by rw [HBB.out]; exact rightB_no (fun h => runs_bad1 HX.out (.inl e0) h.runs)
                subst hbf
                obtain ⟨r0a, r0b, r0c⟩ := HS4.out.rules 0 rfl
                go_wp2_with (first
                  | (have hq := HC; clear hq; refine wpList_load_ad (by kernel_rfl) 55 _ rfl (ad.add (k * 5)) ((ruL x)) HC.out rfl _ (ruV x) rfl Tryd.underlying55 rfl (by kernel_rfl) ?_; clear HC)
                  | (have hq := HS4; clear hq; (with_reducible refine atAlloc ?_); refine wpList_alloc_b rfl (some 5) rfl 55 (#[.int .u64 0, .int .u64 0, .int .u64 0, .int .u64 0, .int .i64 0]) (by kernel_rfl) ?_; intro g5 W5 hb hB hg; have HS5 := Lib.hid (HS4.out.new hb hB hg); clear hb hB hg HS4; clear r0a r0b r0c)
                  | (have hq := HS5; clear hq; (with_reducible refine atStore ?_); refine wpList_store_at rfl 55 _ _ rfl (HS5.out.at_ 2 rfl) (ruV x) rfl rfl (by kernel_rfl) (Nat.le_of_ble_eq_true rfl) (by kernel_rfl) ?_; intro W6 hB hP; have HS6 := Lib.hid (HS5.out.put 2 rfl (new := (ruA x)) hB hP); clear hB hP HS5; obtain ⟨r2a, r2b, r2c⟩ := HS6.out.rules 2 rfl))
                go_ret
                exact ⟨rfl, HS6.out.below⟩
              · have e0n : 0 ≤ x.end_ := by omega
                by_cases e1 : 1099511627776 < x.end_
                · have hbf : b = false := by rw [HBB.out]; exact rightB_no (fun h => runs_bad1 HX.out (.inr e1) h.runs)
                  subst hbf
                  obtain ⟨r0a, r0b, r0c⟩ := HS4.out.rules 0 rfl
                  go_wp2_with (first
                    | (have hq := HC; clear hq; refine wpList_load_ad (by kernel_rfl) 55 _ rfl (ad.add (k * 5)) ((ruL x)) HC.out rfl _ (ruV x) rfl Tryd.underlying55 rfl (by kernel_rfl) ?_; clear HC)
                    | (have hq := HS4; clear hq; (with_reducible refine atAlloc ?_); refine wpList_alloc_b rfl (some 5) rfl 55 (#[.int .u64 0, .int .u64 0, .int .u64 0, .int .u64 0, .int .i64 0]) (by kernel_rfl) ?_; intro g5 W5 hb hB hg; have HS5 := Lib.hid (HS4.out.new hb hB hg); clear hb hB hg HS4; clear r0a r0b r0c)
                    | (have hq := HS5; clear hq; (with_reducible refine atStore ?_); refine wpList_store_at rfl 55 _ _ rfl (HS5.out.at_ 2 rfl) (ruV x) rfl rfl (by kernel_rfl) (Nat.le_of_ble_eq_true rfl) (by kernel_rfl) ?_; intro W6 hB hP; have HS6 := Lib.hid (HS5.out.put 2 rfl (new := (ruA x)) hB hP); clear hB hP HS5; obtain ⟨r2a, r2b, r2c⟩ := HS6.out.rules 2 rfl))
                  go_ret
                  exact ⟨rfl, HS6.out.below⟩
                · have e1n : x.end_ ≤ 1099511627776 := by omega
                  by_cases ha : L &&& x.nodes = emptyS
                  · have HEA := Lib.hid (fun w9 => show (Op.equalIn 10000 24 (nsV (L &&& x.nodes)) (nsV emptyS)).run Tryd.prog w9 = .ok true w9 by rw [eqNs_run, ha]; simp)
                    have HAA := Lib.hid ha
                    clear ha
                    by_cases hz : notS x.nodes up = emptyS
                    · have HEZ := Lib.hid (fun w9 => show (Op.equalIn 10000 24 (nsV (notS x.nodes up)) (nsV emptyS)).run Tryd.prog w9 = .ok true w9 by rw [eqNs_run, hz]; simp)
                      have HR2 := Lib.hid (runs_step HX.out HR.out e0n e1n ((left_iff _ _ _).2 ⟨HL.out ▸ HAA.out, hz⟩))
                      clear hz
                      have HL2 := Lib.hid (show L ||| x.nodes = allS (rs.take (k + 1)) by rw [take_one HX.out, allS_snoc, ← HL.out])
                      obtain ⟨r0a, r0b, r0c⟩ := HS4.out.rules 0 rfl
                      go_wp2_with (first
                        | (have hq := HC; clear hq; refine wpList_load_ad (by kernel_rfl) 55 _ rfl (ad.add (k * 5)) ((ruL x)) HC.out rfl _ (ruV x) rfl Tryd.underlying55 rfl (by kernel_rfl) ?_; clear HC)
                        | (have hq := HS4; clear hq; (with_reducible refine atAlloc ?_); refine wpList_alloc_b rfl (some 5) rfl 55 (#[.int .u64 0, .int .u64 0, .int .u64 0, .int .u64 0, .int .i64 0]) (by kernel_rfl) ?_; intro g5 W5 hb hB hg; have HS5 := Lib.hid (HS4.out.new hb hB hg); clear hb hB hg HS4; clear r0a r0b r0c)
                        | (have hq := HS5; clear hq; (with_reducible refine atStore ?_); refine wpList_store_at rfl 55 _ _ rfl (HS5.out.at_ 2 rfl) (ruV x) rfl rfl (by kernel_rfl) (Nat.le_of_ble_eq_true rfl) (by kernel_rfl) ?_; intro W6 hB hP; have HS6 := Lib.hid (HS5.out.put 2 rfl (new := (ruA x)) hB hP); clear hB hP HS5; obtain ⟨r2a, r2b, r2c⟩ := HS6.out.rules 2 rfl)
                        | (have hq := HS6; clear hq; refine wpList_load_g (by kernel_rfl) 24 _ rfl (HS6.out.at_ 1 rfl) 4 (nsV L) rfl _ Tryd.underlying24 rfl (by kernel_rfl) (Nat.le_of_ble_eq_true rfl) rfl ?_)
                        | (have hq := HS6; clear hq; refine wpList_load_g (by kernel_rfl) 24 _ rfl (HS6.out.at_ 2 rfl) 4 (.agg #[.int .u64 (wn x.nodes 0 : Nat), .int .u64 (wn x.nodes 1 : Nat), .int .u64 (wn x.nodes 2 : Nat), .int .u64 (wn x.nodes 3 : Nat)]) rfl _ Tryd.underlying24 rfl (by kernel_rfl) (Nat.le_of_ble_eq_true rfl) rfl ?_))
                      refine (rand_c L x.nodes _).mono ?_
                      rintro e W7 ⟨rfl, hb⟩
                      have HS7 := Lib.hid (HS6.out.after hb)
                      clear hb HS6 r2a r2b r2c
                      go_wp2_with (first
                        | (have hq := HS7; clear hq; refine wpList_neq (by kernel_rfl) 24 _ _ _ rfl rfl rfl (by kernel_rfl) true (HEA.out _) ?_)
                        | (have hq := HS7; clear hq; refine wpList_load_g (by kernel_rfl) 24 _ rfl (HS7.out.at_ 2 rfl) 4 (.agg #[.int .u64 (wn x.nodes 0 : Nat), .int .u64 (wn x.nodes 1 : Nat), .int .u64 (wn x.nodes 2 : Nat), .int .u64 (wn x.nodes 3 : Nat)]) rfl _ Tryd.underlying24 rfl (by kernel_rfl) (Nat.le_of_ble_eq_true rfl) rfl ?_)
                        | (have hq := HS7; clear hq; refine wpList_load_g (by kernel_rfl) 24 _ rfl (HS7.out.at_ 0 rfl) 4 (.agg #[.int .u64 (wn up 0 : Nat), .int .u64 (wn up 1 : Nat), .int .u64 (wn up 2 : Nat), .int .u64 (wn up 3 : Nat)]) rfl _ Tryd.underlying24 rfl (by kernel_rfl) (Nat.le_of_ble_eq_true rfl) rfl ?_))
                      refine (rnot_c x.nodes up _).mono ?_
                      rintro e W8 ⟨rfl, hb⟩
                      have HS8 := Lib.hid (HS7.out.after hb)
                      clear hb HS7
                      go_wp2_with (first
                        | (have hq := HS8; clear hq; refine wpList_neq (by kernel_rfl) 24 _ _ _ rfl rfl rfl (by kernel_rfl) true (HEZ.out _) ?_)
                        | (have hq := HS8; clear hq; (with_reducible refine atLoad ?_); refine wpList_load_at rfl 24 _ rfl (HS8.out.at_ 1 rfl) 4 (nsV L) rfl _ Tryd.underlying24 rfl (by kernel_rfl) (Nat.le_of_ble_eq_true rfl) rfl ?_)
                        | (have hq := HS8; clear hq; (with_reducible refine atLoad ?_); refine wpList_load_at rfl 24 _ rfl (HS8.out.at_ 2 rfl) 4 (.agg #[.int .u64 (wn x.nodes 0 : Nat), .int .u64 (wn x.nodes 1 : Nat), .int .u64 (wn x.nodes 2 : Nat), .int .u64 (wn x.nodes 3 : Nat)]) rfl _ Tryd.underlying24 rfl (by kernel_rfl) (Nat.le_of_ble_eq_true rfl) rfl ?_))
                      refine (ror_c L x.nodes _).mono ?_
                      rintro e W9 ⟨rfl, hb⟩
                      have HS9 := Lib.hid (HS8.out.after hb)
                      clear hb HS8
                      go_wp2_with (have hq := HS9; clear hq; (with_reducible refine atStore ?_); refine wpList_store_at rfl 24 _ _ rfl (HS9.out.at_ 1 rfl) (nsV (L ||| x.nodes)) rfl rfl (by kernel_rfl) (Nat.le_of_ble_eq_true rfl) (by kernel_rfl) ?_; intro W10 hB hP; have HS10 := Lib.hid (HS9.out.put 1 rfl (new := (nsA (L ||| x.nodes))) hB hP); clear hB hP HS9)
                      refine ⟨⟨k + 1, by omega, by go_num, HR2, ?_⟩, by simp [intOf]; omega⟩
                      rw [← HL2.out]
                      exact Lib.hid (Ms.cut (l := [(.blk g1 28 (scA now up (some ad) n c B m d)), (.blk g2 24 (nsA (L ||| x.nodes)))]) (k := [(.blk g5 55 (ruA x))]) HS10.out)
                    · have HEZ := Lib.hid (fun w9 => show (Op.equalIn 10000 24 (nsV (notS x.nodes up)) (nsV emptyS)).run Tryd.prog w9 = .ok false w9 by rw [eqNs_run]; simp [hz])
                      have HZ := Lib.hid hz
                      clear hz
                      have hbf : b = false := by rw [HBB.out]; exact rightB_no (fun h => runs_bad2 HX.out (fun e => HZ.out ((left_iff _ _ _).1 e).2) h.runs)
                      subst hbf
                      obtain ⟨r0a, r0b, r0c⟩ := HS4.out.rules 0 rfl
                      go_wp2_with (first
                        | (have hq := HC; clear hq; refine wpList_load_ad (by kernel_rfl) 55 _ rfl (ad.add (k * 5)) ((ruL x)) HC.out rfl _ (ruV x) rfl Tryd.underlying55 rfl (by kernel_rfl) ?_; clear HC)
                        | (have hq := HS4; clear hq; (with_reducible refine atAlloc ?_); refine wpList_alloc_b rfl (some 5) rfl 55 (#[.int .u64 0, .int .u64 0, .int .u64 0, .int .u64 0, .int .i64 0]) (by kernel_rfl) ?_; intro g5 W5 hb hB hg; have HS5 := Lib.hid (HS4.out.new hb hB hg); clear hb hB hg HS4; clear r0a r0b r0c)
                        | (have hq := HS5; clear hq; (with_reducible refine atStore ?_); refine wpList_store_at rfl 55 _ _ rfl (HS5.out.at_ 2 rfl) (ruV x) rfl rfl (by kernel_rfl) (Nat.le_of_ble_eq_true rfl) (by kernel_rfl) ?_; intro W6 hB hP; have HS6 := Lib.hid (HS5.out.put 2 rfl (new := (ruA x)) hB hP); clear hB hP HS5; obtain ⟨r2a, r2b, r2c⟩ := HS6.out.rules 2 rfl)
                        | (have hq := HS6; clear hq; refine wpList_load_g (by kernel_rfl) 24 _ rfl (HS6.out.at_ 1 rfl) 4 (nsV L) rfl _ Tryd.underlying24 rfl (by kernel_rfl) (Nat.le_of_ble_eq_true rfl) rfl ?_)
                        | (have hq := HS6; clear hq; refine wpList_load_g (by kernel_rfl) 24 _ rfl (HS6.out.at_ 2 rfl) 4 (.agg #[.int .u64 (wn x.nodes 0 : Nat), .int .u64 (wn x.nodes 1 : Nat), .int .u64 (wn x.nodes 2 : Nat), .int .u64 (wn x.nodes 3 : Nat)]) rfl _ Tryd.underlying24 rfl (by kernel_rfl) (Nat.le_of_ble_eq_true rfl) rfl ?_))
                      refine (rand_c L x.nodes _).mono ?_
                      rintro e W7 ⟨rfl, hb⟩
                      have HS7 := Lib.hid (HS6.out.after hb)
                      clear hb HS6 r2a r2b r2c
                      go_wp2_with (first
                        | (have hq := HS7; clear hq; refine wpList_neq (by kernel_rfl) 24 _ _ _ rfl rfl rfl (by kernel_rfl) true (HEA.out _) ?_)
                        | (have hq := HS7; clear hq; refine wpList_load_g (by kernel_rfl) 24 _ rfl (HS7.out.at_ 2 rfl) 4 (.agg #[.int .u64 (wn x.nodes 0 : Nat), .int .u64 (wn x.nodes 1 : Nat), .int .u64 (wn x.nodes 2 : Nat), .int .u64 (wn x.nodes 3 : Nat)]) rfl _ Tryd.underlying24 rfl (by kernel_rfl) (Nat.le_of_ble_eq_true rfl) rfl ?_)
                        | (have hq := HS7; clear hq; refine wpList_load_g (by kernel_rfl) 24 _ rfl (HS7.out.at_ 0 rfl) 4 (.agg #[.int .u64 (wn up 0 : Nat), .int .u64 (wn up 1 : Nat), .int .u64 (wn up 2 : Nat), .int .u64 (wn up 3 : Nat)]) rfl _ Tryd.underlying24 rfl (by kernel_rfl) (Nat.le_of_ble_eq_true rfl) rfl ?_))
                      refine (rnot_c x.nodes up _).mono ?_
                      rintro e W8 ⟨rfl, hb⟩
                      have HS8 := Lib.hid (HS7.out.after hb)
                      clear hb HS7
                      go_wp2_with (have hq := HS8; clear hq; refine wpList_neq (by kernel_rfl) 24 _ _ _ rfl rfl rfl (by kernel_rfl) false (HEZ.out _) ?_)
                      go_ret
                      exact ⟨rfl, HS8.out.below⟩
                  · have HEA := Lib.hid (fun w9 => show (Op.equalIn 10000 24 (nsV (L &&& x.nodes)) (nsV emptyS)).run Tryd.prog w9 = .ok false w9 by rw [eqNs_run]; simp [ha])
                    have HZ := Lib.hid ha
                    clear ha
                    have hbf : b = false := by rw [HBB.out]; exact rightB_no (fun h => runs_bad2 HX.out (fun e => HZ.out (HL.out ▸ ((left_iff _ _ _).1 e).1)) h.runs)
                    subst hbf
                    obtain ⟨r0a, r0b, r0c⟩ := HS4.out.rules 0 rfl
                    go_wp2_with (first
                      | (have hq := HC; clear hq; refine wpList_load_ad (by kernel_rfl) 55 _ rfl (ad.add (k * 5)) ((ruL x)) HC.out rfl _ (ruV x) rfl Tryd.underlying55 rfl (by kernel_rfl) ?_; clear HC)
                      | (have hq := HS4; clear hq; (with_reducible refine atAlloc ?_); refine wpList_alloc_b rfl (some 5) rfl 55 (#[.int .u64 0, .int .u64 0, .int .u64 0, .int .u64 0, .int .i64 0]) (by kernel_rfl) ?_; intro g5 W5 hb hB hg; have HS5 := Lib.hid (HS4.out.new hb hB hg); clear hb hB hg HS4; clear r0a r0b r0c)
                      | (have hq := HS5; clear hq; (with_reducible refine atStore ?_); refine wpList_store_at rfl 55 _ _ rfl (HS5.out.at_ 2 rfl) (ruV x) rfl rfl (by kernel_rfl) (Nat.le_of_ble_eq_true rfl) (by kernel_rfl) ?_; intro W6 hB hP; have HS6 := Lib.hid (HS5.out.put 2 rfl (new := (ruA x)) hB hP); clear hB hP HS5; obtain ⟨r2a, r2b, r2c⟩ := HS6.out.rules 2 rfl)
                      | (have hq := HS6; clear hq; refine wpList_load_g (by kernel_rfl) 24 _ rfl (HS6.out.at_ 1 rfl) 4 (nsV L) rfl _ Tryd.underlying24 rfl (by kernel_rfl) (Nat.le_of_ble_eq_true rfl) rfl ?_)
                      | (have hq := HS6; clear hq; refine wpList_load_g (by kernel_rfl) 24 _ rfl (HS6.out.at_ 2 rfl) 4 (.agg #[.int .u64 (wn x.nodes 0 : Nat), .int .u64 (wn x.nodes 1 : Nat), .int .u64 (wn x.nodes 2 : Nat), .int .u64 (wn x.nodes 3 : Nat)]) rfl _ Tryd.underlying24 rfl (by kernel_rfl) (Nat.le_of_ble_eq_true rfl) rfl ?_))
                    refine (rand_c L x.nodes _).mono ?_
                    rintro e W7 ⟨rfl, hb⟩
                    have HS7 := Lib.hid (HS6.out.after hb)
                    clear hb HS6 r2a r2b r2c
                    go_wp2_with (have hq := HS7; clear hq; refine wpList_neq (by kernel_rfl) 24 _ _ _ rfl rfl rfl (by kernel_rfl) false (HEA.out _) ?_)
                    go_ret
                    exact ⟨rfl, HS7.out.below⟩
            · obtain rfl : n = k := by omega
              have HRO := Lib.hid (show RunsOk up rs by have h := HR.out; rw [List.take_of_length_le (by rw [HLr.out]; exact Nat.le_refl _)] at h; exact h)
              obtain ⟨r0a, r0b, r0c⟩ := HS4.out.rules 0 rfl
              go_wp2_with fail
              go_loopw [6] (fun k wr => ∃ kk : Nat, kk ≤ m ∧ k = .int .i64 (kk : Nat) ∧ Hid (WishOk (ws.take kk)) ∧ Hid (Ms w noB [(.blk g1 28 (scA now up A n c B m d)), (.blk g2 24 (nsA (allS (rs.take n))))] wr)) (fun k _ => m - (intOf k).toNat)
              case atStart => exact ⟨0, by omega, rfl, Lib.hid ⟨fun r hr => by simp at hr, List.Pairwise.nil⟩, HS4⟩
              case round =>
                obtain ⟨k, hkm, rfl, HW, HS5⟩ := hrel
                by_cases hlt : k < m
                · have hltI : (k : Int) < (m : Int) := by omega
                  obtain ⟨ad, x, hAe, hx, hc⟩ := (HB.out.below HS5.out.below).at_ hlt
                  subst hAe
                  have HC := Lib.hid hc
                  have HX := Lib.hid hx
                  clear hc hx
                  by_cases d0 : x.id < 1
                  · have hbf : b = false := by rw [HBB.out]; exact rightB_no (fun h => wish_bad1 HX.out (fun h => by have := h.id; omega) h.wish)
                    subst hbf
                    obtain ⟨r0a, r0b, r0c⟩ := HS5.out.rules 0 rfl
                    go_wp2_with (first
                      | (have hq := HC; clear hq; refine wpList_load_ad (by kernel_rfl) 49 _ rfl (ad.add (k * 7)) ((wiL x)) HC.out rfl _ (wiV x) rfl Tryd.underlying49 rfl (by kernel_rfl) ?_; clear HC)
                      | (have hq := HS5; clear hq; (with_reducible refine atAlloc ?_); refine wpList_alloc_b rfl (some 7) rfl 49 (#[.int .i64 0, .int .i64 0, .int .i64 0, .int .u64 0, .int .u64 0, .int .u64 0, .int .u64 0]) (by kernel_rfl) ?_; intro g6 W6 hb hB hg; have HS6 := Lib.hid (HS5.out.new hb hB hg); clear hb hB hg HS5; clear r0a r0b r0c)
                      | (have hq := HS6; clear hq; (with_reducible refine atStore ?_); refine wpList_store_at rfl 49 _ _ rfl (HS6.out.at_ 2 rfl) (wiV x) rfl rfl (by kernel_rfl) (Nat.le_of_ble_eq_true rfl) (by kernel_rfl) ?_; intro W7 hB hP; have HS7 := Lib.hid (HS6.out.put 2 rfl (new := (wiA x)) hB hP); clear hB hP HS6; obtain ⟨r2a, r2b, r2c⟩ := HS7.out.rules 2 rfl))
                    go_ret
                    exact ⟨rfl, HS7.out.below⟩
                  · have d0n : 1 ≤ x.id := by omega
                    by_cases d1 : x.n < 1
                    · have hbf : b = false := by rw [HBB.out]; exact rightB_no (fun h => wish_bad1 HX.out (fun h => by have := h.n0; omega) h.wish)
                      subst hbf
                      obtain ⟨r0a, r0b, r0c⟩ := HS5.out.rules 0 rfl
                      go_wp2_with (first
                        | (have hq := HC; clear hq; refine wpList_load_ad (by kernel_rfl) 49 _ rfl (ad.add (k * 7)) ((wiL x)) HC.out rfl _ (wiV x) rfl Tryd.underlying49 rfl (by kernel_rfl) ?_; clear HC)
                        | (have hq := HS5; clear hq; (with_reducible refine atAlloc ?_); refine wpList_alloc_b rfl (some 7) rfl 49 (#[.int .i64 0, .int .i64 0, .int .i64 0, .int .u64 0, .int .u64 0, .int .u64 0, .int .u64 0]) (by kernel_rfl) ?_; intro g6 W6 hb hB hg; have HS6 := Lib.hid (HS5.out.new hb hB hg); clear hb hB hg HS5; clear r0a r0b r0c)
                        | (have hq := HS6; clear hq; (with_reducible refine atStore ?_); refine wpList_store_at rfl 49 _ _ rfl (HS6.out.at_ 2 rfl) (wiV x) rfl rfl (by kernel_rfl) (Nat.le_of_ble_eq_true rfl) (by kernel_rfl) ?_; intro W7 hB hP; have HS7 := Lib.hid (HS6.out.put 2 rfl (new := (wiA x)) hB hP); clear hB hP HS6; obtain ⟨r2a, r2b, r2c⟩ := HS7.out.rules 2 rfl))
                      go_ret
                      exact ⟨rfl, HS7.out.below⟩
                    · have d1n : 1 ≤ x.n := by omega
                      by_cases d2 : 256 < x.n
                      · have hbf : b = false := by rw [HBB.out]; exact rightB_no (fun h => wish_bad1 HX.out (fun h => by have := h.n1; omega) h.wish)
                        subst hbf
                        obtain ⟨r0a, r0b, r0c⟩ := HS5.out.rules 0 rfl
                        go_wp2_with (first
                          | (have hq := HC; clear hq; refine wpList_load_ad (by kernel_rfl) 49 _ rfl (ad.add (k * 7)) ((wiL x)) HC.out rfl _ (wiV x) rfl Tryd.underlying49 rfl (by kernel_rfl) ?_; clear HC)
                          | (have hq := HS5; clear hq; (with_reducible refine atAlloc ?_); refine wpList_alloc_b rfl (some 7) rfl 49 (#[.int .i64 0, .int .i64 0, .int .i64 0, .int .u64 0, .int .u64 0, .int .u64 0, .int .u64 0]) (by kernel_rfl) ?_; intro g6 W6 hb hB hg; have HS6 := Lib.hid (HS5.out.new hb hB hg); clear hb hB hg HS5; clear r0a r0b r0c)
                          | (have hq := HS6; clear hq; (with_reducible refine atStore ?_); refine wpList_store_at rfl 49 _ _ rfl (HS6.out.at_ 2 rfl) (wiV x) rfl rfl (by kernel_rfl) (Nat.le_of_ble_eq_true rfl) (by kernel_rfl) ?_; intro W7 hB hP; have HS7 := Lib.hid (HS6.out.put 2 rfl (new := (wiA x)) hB hP); clear hB hP HS6; obtain ⟨r2a, r2b, r2c⟩ := HS7.out.rules 2 rfl))
                        go_ret
                        exact ⟨rfl, HS7.out.below⟩
                      · have d2n : x.n ≤ 256 := by omega
                        by_cases d3 : x.long < 1
                        · have hbf : b = false := by rw [HBB.out]; exact rightB_no (fun h => wish_bad1 HX.out (fun h => by have := h.l0; omega) h.wish)
                          subst hbf
                          obtain ⟨r0a, r0b, r0c⟩ := HS5.out.rules 0 rfl
                          go_wp2_with (first
                            | (have hq := HC; clear hq; refine wpList_load_ad (by kernel_rfl) 49 _ rfl (ad.add (k * 7)) ((wiL x)) HC.out rfl _ (wiV x) rfl Tryd.underlying49 rfl (by kernel_rfl) ?_; clear HC)
                            | (have hq := HS5; clear hq; (with_reducible refine atAlloc ?_); refine wpList_alloc_b rfl (some 7) rfl 49 (#[.int .i64 0, .int .i64 0, .int .i64 0, .int .u64 0, .int .u64 0, .int .u64 0, .int .u64 0]) (by kernel_rfl) ?_; intro g6 W6 hb hB hg; have HS6 := Lib.hid (HS5.out.new hb hB hg); clear hb hB hg HS5; clear r0a r0b r0c)
                            | (have hq := HS6; clear hq; (with_reducible refine atStore ?_); refine wpList_store_at rfl 49 _ _ rfl (HS6.out.at_ 2 rfl) (wiV x) rfl rfl (by kernel_rfl) (Nat.le_of_ble_eq_true rfl) (by kernel_rfl) ?_; intro W7 hB hP; have HS7 := Lib.hid (HS6.out.put 2 rfl (new := (wiA x)) hB hP); clear hB hP HS6; obtain ⟨r2a, r2b, r2c⟩ := HS7.out.rules 2 rfl))
                          go_ret
                          exact ⟨rfl, HS7.out.below⟩
                        · have d3n : 1 ≤ x.long := by omega
                          by_cases d4 : 1048576 < x.long
                          · have hbf : b = false := by rw [HBB.out]; exact rightB_no (fun h => wish_bad1 HX.out (fun h => by have := h.l1; omega) h.wish)
                            subst hbf
                            obtain ⟨r0a, r0b, r0c⟩ := HS5.out.rules 0 rfl
                            go_wp2_with (first
                              | (have hq := HC; clear hq; refine wpList_load_ad (by kernel_rfl) 49 _ rfl (ad.add (k * 7)) ((wiL x)) HC.out rfl _ (wiV x) rfl Tryd.underlying49 rfl (by kernel_rfl) ?_; clear HC)
                              | (have hq := HS5; clear hq; (with_reducible refine atAlloc ?_); refine wpList_alloc_b rfl (some 7) rfl 49 (#[.int .i64 0, .int .i64 0, .int .i64 0, .int .u64 0, .int .u64 0, .int .u64 0, .int .u64 0]) (by kernel_rfl) ?_; intro g6 W6 hb hB hg; have HS6 := Lib.hid (HS5.out.new hb hB hg); clear hb hB hg HS5; clear r0a r0b r0c)
                              | (have hq := HS6; clear hq; (with_reducible refine atStore ?_); refine wpList_store_at rfl 49 _ _ rfl (HS6.out.at_ 2 rfl) (wiV x) rfl rfl (by kernel_rfl) (Nat.le_of_ble_eq_true rfl) (by kernel_rfl) ?_; intro W7 hB hP; have HS7 := Lib.hid (HS6.out.put 2 rfl (new := (wiA x)) hB hP); clear hB hP HS6; obtain ⟨r2a, r2b, r2c⟩ := HS7.out.rules 2 rfl))
                            go_ret
                            exact ⟨rfl, HS7.out.below⟩
                          · have d4n : x.long ≤ 1048576 := by omega
                            obtain ⟨r0a, r0b, r0c⟩ := HS5.out.rules 0 rfl
                            go_wp2_with (first
                              | (have hq := HC; clear hq; refine wpList_load_ad (by kernel_rfl) 49 _ rfl (ad.add (k * 7)) ((wiL x)) HC.out rfl _ (wiV x) rfl Tryd.underlying49 rfl (by kernel_rfl) ?_; clear HC)
                              | (have hq := HS5; clear hq; (with_reducible refine atAlloc ?_); refine wpList_alloc_b rfl (some 7) rfl 49 (#[.int .i64 0, .int .i64 0, .int .i64 0, .int .u64 0, .int .u64 0, .int .u64 0, .int .u64 0]) (by kernel_rfl) ?_; intro g6 W6 hb hB hg; have HS6 := Lib.hid (HS5.out.new hb hB hg); clear hb hB hg HS5; clear r0a r0b r0c)
                              | (have hq := HS6; clear hq; (with_reducible refine atStore ?_); refine wpList_store_at rfl 49 _ _ rfl (HS6.out.at_ 2 rfl) (wiV x) rfl rfl (by kernel_rfl) (Nat.le_of_ble_eq_true rfl) (by kernel_rfl) ?_; intro W7 hB hP; have HS7 := Lib.hid (HS6.out.put 2 rfl (new := (wiA x)) hB hP); clear hB hP HS6; obtain ⟨r2a, r2b, r2c⟩ := HS7.out.rules 2 rfl))
                            have HWO := Lib.hid (show WiOk x from ⟨by omega, by omega, by omega, by omega, by omega⟩)
                            clear r2a r2b r2c
                            go_loopw [8] (fun j wr => ∃ jj : Nat, jj ≤ k ∧ j = .int .i64 (jj : Nat) ∧ Hid (¬ x.id ∈ (ws.take jj).map Wi.id) ∧ Hid (Ms w noB [(.blk g1 28 (scA now up A n c (some ad) m d)), (.blk g2 24 (nsA (allS (rs.take n)))), (.blk g6 49 (wiA x))] wr)) (fun j _ => k - (intOf j).toNat)
                            case atStart => exact ⟨0, by omega, rfl, Lib.hid (by simp), HS7⟩
                            case round =>
                              obtain ⟨j, hjk, rfl, HJ, HS8⟩ := hrel
                              by_cases hj : j < k
                              · have hjI : (j : Int) < (k : Int) := by omega
                                have hjm : (j : Int) < (m : Int) := by omega
                                have hjm2 : j < m := by omega
                                obtain ⟨ad2, y, hAe2, hy, hc2⟩ := (HB.out.below HS8.out.below).at_ hjm2
                                cases hAe2
                                have HY := Lib.hid hy
                                clear hc2 hy
                                by_cases he : y.id = x.id
                                · have hq : (y.id == x.id) = true := beq_iff_eq.2 he
                                  have hbf : b = false := by rw [HBB.out]; exact rightB_no (fun h => wish_bad2 HX.out (by
                                    rw [← he]
                                    exact List.mem_map.2 ⟨y, List.mem_of_getElem? (by rw [List.getElem?_take]; rw [if_pos hj]; exact HY.out : (ws.take k)[j]? = some y), rfl⟩) h.wish)
                                  subst hbf
                                  clear he
                                  go_wp2_with fail
                                  refine region_b (Ms w noB _) (by kernel_rfl) (by kernel_rfl) HS8.out ?_
                                  clear HS8
                                  intro W9 hS
                                  have q0 := hS.on 0 rfl
                                  have q2 := hS.on 2 rfl
                                  have qe := fun (d : Nat) (os : Array Obj) => cell_on (wi_id (HB.out.below hS.below) hjm2 HY.out) d os
                                  have HS9 := Lib.hid hS
                                  clear hS
                                  repeat (first | go_big_quiet_skip | go_big_quiet_step (fail) | quiet_step (fail))
                                  refine wpQuiet_nil ?_
                                  intro W10 hb
                                  have HS10 := Lib.hid (HS9.out.after hb)
                                  clear hb HS9 q0 q2 qe
                                  go_wp2_with fail
                                  go_ret
                                  exact ⟨rfl, HS10.out.below⟩
                                · have hq : (y.id == x.id) = false := beq_false_of_ne he
                                  have HJ2 := Lib.hid (show ¬ x.id ∈ (ws.take (j + 1)).map Wi.id by
                                    rw [take_one HY.out, List.map_append, List.mem_append]
                                    rintro (h | h)
                                    · exact HJ.out h
                                    · simp at h; exact he h.symm)
                                  clear he
                                  go_wp2_with fail
                                  refine region_b (Ms w noB _) (by kernel_rfl) (by kernel_rfl) HS8.out ?_
                                  clear HS8
                                  intro W9 hS
                                  have q0 := hS.on 0 rfl
                                  have q2 := hS.on 2 rfl
                                  have qe := fun (d : Nat) (os : Array Obj) => cell_on (wi_id (HB.out.below hS.below) hjm2 HY.out) d os
                                  have HS9 := Lib.hid hS
                                  clear hS
                                  repeat (first | go_big_quiet_skip | go_big_quiet_step (fail) | quiet_step (fail))
                                  refine wpQuiet_nil ?_
                                  intro W10 hb
                                  have HS10 := Lib.hid (HS9.out.after hb)
                                  clear hb HS9 q0 q2 qe
                                  go_wp2_with fail
                                  exact ⟨⟨j + 1, by omega, by go_num, HJ2, HS10⟩, by simp [intOf]; omega⟩
                              · obtain rfl : j = k := by omega
                                have HW2 := Lib.hid (wish_step HX.out HW.out HWO.out HJ.out)
                                go_wp2_with fail
                                exact ⟨⟨j + 1, by omega, by go_num, HW2, Lib.hid (Ms.cut (l := [(.blk g1 28 (scA now up A n c (some ad) m d)), (.blk g2 24 (nsA (allS (rs.take n))))]) (k := [(.blk g6 49 (wiA x))]) HS8.out)⟩, by simp [intOf]; omega⟩
                · obtain rfl : k = m := by omega
                  have hbt : b = true := by rw [HBB.out]; exact rightB_yes ⟨by omega, by omega, by rw [HLr.out]; omega, by rw [HLw.out]; omega, HRO.out, by have h := HW.out; rw [List.take_of_length_le (by rw [HLw.out]; exact Nat.le_refl _)] at h; exact h⟩
                  subst hbt
                  obtain ⟨r0a, r0b, r0c⟩ := HS5.out.rules 0 rfl
                  go_wp2_with fail
                  go_ret
                  exact ⟨rfl, HS5.out.below⟩
end Go.Proofs.YtkgphbjneaagoaaDoor
