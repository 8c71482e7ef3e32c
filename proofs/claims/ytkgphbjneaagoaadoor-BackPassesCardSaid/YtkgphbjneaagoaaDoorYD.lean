/- Back: the document's profile: During. | Back: the document's profile: Steps, how many. | Back: the document's profile: Take, where it may be taken. | A pure operation that nothing waits for: the region is shown as if the tail waited for it. | Back: the document's profile: Earliest. -/
import Derived.Test.YtkgphbjneaagoaaDoorH3
import Derived.Test.YtkgphbjneaagoaaDoorYA
set_option linter.unusedVariables false
set_option maxRecDepth 100000
namespace Go.Proofs.YtkgphbjneaagoaaDoor
open Go.RowKit Go.Sort

def durF (up : NS) (sp : List Sn) (lo hi : Int) (s : NS) (t : Int) : NS := if lo < t ∧ t < hi then s &&& frD up sp t else s
theorem durD_fold (up : NS) (sp : List Sn) (E : List Int) (lo hi : Int) : durD up sp E lo hi = E.foldl (durF up sp lo hi) (frD up sp lo) := rfl
set_option maxHeartbeats 16000000 in
theorem dduring_c (p : Nat) (up : NS) (first : Int) (A : Option Addr) (n c : Nat) (sp : List Sn) (lo hi : Int) (w : World) (hD : DpR w p up first A n c sp) (h0 : first ≤ lo) (h1 : lo < hi) (h2 : hi ≤ 2199023255552) :
    Calls Tryd.prog 48 #[.pointer (some ⟨p, 0, none⟩), .int .i64 lo, .int .i64 hi] w fun e w' => e = .returned (.tuple #[nsV (durD up sp (endsL first sp) lo hi), .int .i64 0]) ∧ Below w.heap.size w w' := by
  obtain ⟨E, hE⟩ : ∃ E, E = endsL first sp := ⟨_, rfl⟩
  have HEc := Lib.hid (fun (W : World) (h : DpR W p up first A n c sp) => dends_c p up first A n c sp W h)
  have HEl := Lib.hid (show E.length ≤ 4001 by
    rw [hE]
    have h4 := (ends_props first sp).2.2
    have h5 := hD.len
    have h6 := hD.rd.1
    omega)
  rw [← hE] at HEc ⊢
  obtain ⟨FD, hFD⟩ : ∃ FD, FD = durD up sp E lo hi := ⟨_, rfl⟩
  have HFD := Lib.hid (show FD = E.foldl (durF up sp lo hi) (frD up sp lo) from hFD)
  have HLH := Lib.hid (And.intro h0 (And.intro h1 h2))
  rw [← hFD]
  clear hE hFD h0 h1 h2
  have HP := Lib.hid hD.blk
  have HR := Lib.hid hD.rd
  have HDD := Lib.hid hD
  have hnI : (n : Int) ≤ 2000 := by have := hD.len; omega
  have hf0 := hD.lo.1
  have hf1 := hD.lo.2
  clear hD
  go_enter Tryd.func48, Tryd.ntmps48
  have HS0 := Lib.hid (Ms.start (o := Own.blk p 80 (dpA up first A n c)) HP.out)
  go_wp2_with (have hq := HS0; clear hq; (with_reducible refine atAlloc ?_); refine wpList_alloc_b rfl (some 6) rfl 24 (#[.int .u64 0, .int .u64 0, .int .u64 0, .int .u64 0]) (by kernel_rfl) ?_; intro g1 W1 hb hB hg; have HS1 := Lib.hid (HS0.out.new hb hB hg); clear hb hB hg HS0)
  refine (dspan_c p up first A n c sp lo hi _ (HDD.out.below (HS1.out.still HP.out)) HLH.out.1 HLH.out.2.1 HLH.out.2.2).mono ?_
  rintro e W2 ⟨rfl, hb⟩
  have HS2 := Lib.hid (HS1.out.after hb)
  clear hb HS1
  go_wp2_with fail
  refine (dfree_c p up first A n c sp lo _ (HDD.out.below (HS2.out.still HP.out)) HLH.out.1 (by have := HLH.out; omega)).mono ?_
  rintro e W3 ⟨rfl, hb⟩
  have HS3 := Lib.hid (HS2.out.after hb)
  clear hb HS2
  go_wp2_with (first
    | (have hq := HS3; clear hq; (with_reducible refine atAlloc ?_); refine wpList_alloc_b rfl (some 8) rfl 24 (#[.int .u64 0, .int .u64 0, .int .u64 0, .int .u64 0]) (by kernel_rfl) ?_; intro g4 W4 hb hB hg; have HS4 := Lib.hid (HS3.out.new hb hB hg); clear hb hB hg HS3)
    | (have hq := HS4; clear hq; (with_reducible refine atStore ?_); refine wpList_store_at rfl 24 _ _ rfl (HS4.out.at_ 2 rfl) (nsV (frD up sp lo)) rfl rfl (by kernel_rfl) (Nat.le_of_ble_eq_true rfl) (by kernel_rfl) ?_; intro W5 hB hP; have HS5 := Lib.hid (HS4.out.put 2 rfl (new := (nsA (frD up sp lo))) hB hP); clear hB hP HS4))
  refine (HEc.out _ (HDD.out.below (HS5.out.still HP.out))).mono ?_
  rintro e W6 ⟨AE, cE, rfl, hM⟩
  have HS6 := Lib.hid (HS5.out.made hM)
  clear hM HS5
  go_wp2_with fail
  have hEI : (E.length : Int) ≤ 4001 := by have := HEl.out; omega
  go_loopw [11] (fun k wr => ∃ kk : Nat, kk ≤ E.length ∧ k = .int .i64 (kk : Nat) ∧ Hid (Ms w (Own.blk p 80 (dpA up first A n c)).bl [(.blk p 80 (dpA up first A n c)), (.blk g1 24 #[.int .u64 0, .int .u64 0, .int .u64 0, .int .u64 0]), .blk g4 24 (nsA ((E.take kk).foldl (durF up sp lo hi) (frD up sp lo))), rowI AE cE E] wr)) (fun k _ => E.length - (intOf k).toNat)
  case atStart => exact ⟨0, by omega, rfl, HS6⟩
  case round =>
    obtain ⟨k, hkn, rfl, HS7⟩ := hrel
    by_cases hlt : k < E.length
    · have hltI : (k : Int) < (E.length : Int) := by omega
      obtain ⟨ad, hAe⟩ := HS7.out.adI 3 rfl (by omega)
      subst hAe
      obtain ⟨x, hx⟩ : ∃ x, E[k]? = some x := ⟨_, List.getElem?_eq_getElem hlt⟩
      obtain ⟨R, hR⟩ : ∃ R, R = ((E.take k).foldl (durF up sp lo hi) (frD up sp lo)) := ⟨_, rfl⟩
      have HN := Lib.hid (show ((E.take (k + 1)).foldl (durF up sp lo hi) (frD up sp lo)) = durF up sp lo hi R x by rw [take_one hx, List.foldl_append, hR]; rfl)
      rw [← hR] at HS7
      have HX := Lib.hid hx
      clear hR hx
      have e0 := HS7.out.cellI 3 rfl HX.out
      by_cases c1 : lo < x
      · by_cases c2 : x < hi
        · have HNe := Lib.hid (show ((E.take (k + 1)).foldl (durF up sp lo hi) (frD up sp lo)) = R &&& frD up sp x from HN.out.trans (by unfold durF; rw [if_pos ⟨c1, c2⟩]))
          go_wp2_with fail
          clear e0
          refine (dfree_c p up first A n c sp x _ (HDD.out.below (HS7.out.still HP.out)) (by have := HLH.out; omega) (by have := HLH.out; omega)).mono ?_
          rintro e W8 ⟨rfl, hb⟩
          have HS8 := Lib.hid (HS7.out.after hb)
          clear hb HS7
          go_wp2_with (first
            | (have hq := HS8; clear hq; (with_reducible refine atAlloc ?_); refine wpList_alloc_b rfl (some 12) rfl 24 (#[.int .u64 0, .int .u64 0, .int .u64 0, .int .u64 0]) (by kernel_rfl) ?_; intro g9 W9 hb hB hg; have HS9 := Lib.hid (HS8.out.new hb hB hg); clear hb hB hg HS8)
            | (have hq := HS9; clear hq; (with_reducible refine atStore ?_); refine wpList_store_at rfl 24 _ _ rfl (HS9.out.at_ 4 rfl) (nsV (frD up sp x)) rfl rfl (by kernel_rfl) (Nat.le_of_ble_eq_true rfl) (by kernel_rfl) ?_; intro W10 hB hP; have HS10 := Lib.hid (HS9.out.put 4 rfl (new := (nsA (frD up sp x))) hB hP); clear hB hP HS9)
            | (have hq := HS10; clear hq; (with_reducible refine atLoad ?_); refine wpList_load_at rfl 24 _ rfl (HS10.out.at_ 2 rfl) 4 (nsV R) rfl _ Tryd.underlying24 rfl (by kernel_rfl) (Nat.le_of_ble_eq_true rfl) rfl ?_)
            | (have hq := HS10; clear hq; (with_reducible refine atLoad ?_); refine wpList_load_at rfl 24 _ rfl (HS10.out.at_ 4 rfl) 4 (nsV (frD up sp x)) rfl _ Tryd.underlying24 rfl (by kernel_rfl) (Nat.le_of_ble_eq_true rfl) rfl ?_))
          refine (rand_c R (frD up sp x) _).mono ?_
          rintro e W11 ⟨rfl, hb⟩
          have HS11 := Lib.hid (HS10.out.after hb)
          clear hb HS10
          go_wp2_with (have hq := HS11; clear hq; (with_reducible refine atStore ?_); refine wpList_store_at rfl 24 _ _ rfl (HS11.out.at_ 2 rfl) (nsV (R &&& frD up sp x)) rfl rfl (by kernel_rfl) (Nat.le_of_ble_eq_true rfl) (by kernel_rfl) ?_; intro W12 hB hP; have HS12 := Lib.hid (HS11.out.put 2 rfl (new := (nsA (R &&& frD up sp x))) hB hP); clear hB hP HS11)
          refine ⟨⟨k + 1, by omega, by go_num, ?_⟩, by simp [intOf]; omega⟩
          rw [HNe.out]
          exact Lib.hid (Ms.cut (l := [(.blk p 80 (dpA up first A n c)), (.blk g1 24 #[.int .u64 0, .int .u64 0, .int .u64 0, .int .u64 0]), (.blk g4 24 (nsA (R &&& frD up sp x))), rowI (some ad) cE E]) (k := [(.blk g9 24 (nsA (frD up sp x)))]) HS12.out)
        · have c2n : hi ≤ x := by omega
          have HNe := Lib.hid (show ((E.take (k + 1)).foldl (durF up sp lo hi) (frD up sp lo)) = R from HN.out.trans (by unfold durF; rw [if_neg (by omega)]))
          go_wp2_with fail
          refine ⟨⟨k + 1, by omega, by go_num, ?_⟩, by simp [intOf]; omega⟩
          rw [HNe.out]
          exact HS7
      · have c1n : x ≤ lo := by omega
        have HNe := Lib.hid (show ((E.take (k + 1)).foldl (durF up sp lo hi) (frD up sp lo)) = R from HN.out.trans (by unfold durF; rw [if_neg (by omega)]))
        go_wp2_with fail
        refine ⟨⟨k + 1, by omega, by go_num, ?_⟩, by simp [intOf]; omega⟩
        rw [HNe.out]
        exact HS7
    · obtain rfl : k = E.length := by omega
      have HQ := HS7.out
      rw [List.take_length, ← HFD.out] at HQ
      have HS8 := Lib.hid HQ
      clear HQ HS7
      go_wp2_with (first
        | (have hq := HS8; clear hq; (with_reducible refine atLoad ?_); refine wpList_load_at rfl 24 _ rfl (HS8.out.at_ 2 rfl) 4 (nsV FD) rfl _ Tryd.underlying24 rfl (by kernel_rfl) (Nat.le_of_ble_eq_true rfl) rfl ?_)
        | (have hq := HS8; clear hq; (with_reducible refine atStore ?_); refine wpList_store_at rfl 24 _ _ rfl (HS8.out.at_ 1 rfl) (nsV FD) rfl rfl (by kernel_rfl) (Nat.le_of_ble_eq_true rfl) (by kernel_rfl) ?_; intro W9 hB hP; have HS9 := Lib.hid (HS8.out.put 1 rfl (new := (nsA FD)) hB hP); clear hB hP HS8))
      exact post_cell_tmp (x := .int .i64 0) rfl rfl rfl (HS9.out.at_ 1 rfl) Tryd.underlying24 rfl (by kernel_rfl) rfl ⟨rfl, HS9.out.still HP.out⟩
end Go.Proofs.YtkgphbjneaagoaaDoor

set_option linter.unusedVariables false
set_option maxRecDepth 100000
namespace Go.Proofs.YtkgphbjneaagoaaDoor
open Go.RowKit Go.Sort

/-- Some of them, by their numbers. -/
theorem Ms.selL {w W : World} {ex : Nat → Prop} {l : List Own} (h : Ms w ex l W) (f : List Nat) (m : List Own) (hm : m.map some = f.map (fun i => l[i]?)) (hd : f.Nodup) : Ms w ex m W := by
  have hl : m.length = f.length := by have := congrArg List.length hm; simpa using this
  refine h.pick (fun i => f.getD i 0) m (fun i o hi => ?_) (fun i j hi hj he => ?_)
  · have hi2 := (List.getElem?_eq_some_iff.1 hi).1
    have h1 : (m.map some)[i]? = some (some o) := by rw [List.getElem?_map, hi]; rfl
    rw [hm, List.getElem?_map, List.getElem?_eq_getElem (show i < f.length by omega)] at h1
    simp only [Option.map_some, Option.some.injEq] at h1
    show l[f.getD i 0]? = some o
    rw [List.getD_eq_getElem?_getD, List.getElem?_eq_getElem (show i < f.length by omega)]
    exact h1
  · rw [List.getD_eq_getElem?_getD, List.getElem?_eq_getElem (show i < f.length by omega), List.getD_eq_getElem?_getD, List.getElem?_eq_getElem (show j < f.length by omega)] at he
    simp only [Option.getD_some] at he
    exact (List.getElem_inj hd).1 he
theorem ends_mem {first : Int} {sp : List Sn} (hf : first < 2199023255552) (h : ∀ s ∈ sp, s.lo ≤ 2199023255552 ∧ s.hi ≤ 2199023255552 ∧ first ≤ s.lo) {x : Int} (hx : x ∈ endsL first sp) (hh : ∀ s ∈ sp, s.lo ≤ s.hi) : first ≤ x ∧ x < 2199023255552 := by
  rcases ((ends_props first sp).2.1 x).1 hx with rfl | ⟨h1, h2⟩
  · exact ⟨Int.le_refl _, hf⟩
  · refine ⟨?_, h2⟩
    obtain ⟨s, hs, hxs⟩ := List.mem_flatMap.1 h1
    have h3 := h s hs
    have h4 := hh s hs
    simp at hxs
    rcases hxs with rfl | rfl <;> omega
set_option maxHeartbeats 64000000 in
theorem dsteps_c (p : Nat) (up : NS) (first : Int) (A : Option Addr) (n c : Nat) (sp : List Sn) (w : World) (hD : DpR w p up first A n c sp) (hh : ∀ s ∈ sp, s.lo ≤ s.hi) :
    Calls Tryd.prog 50 #[.pointer (some ⟨p, 0, none⟩)] w fun e w' => ∃ A' m c', e = .returned (.slice A' m c') ∧ m ≤ 1 + 2 * n ∧ Below w.heap.size w w' := by
  obtain ⟨E, hE⟩ : ∃ E, E = endsL first sp := ⟨_, rfl⟩
  have HEc := Lib.hid (fun (W : World) (h : DpR W p up first A n c sp) => dends_c p up first A n c sp W h)
  have HEl := Lib.hid (show E.length ≤ 1 + 2 * n ∧ E.length ≤ 4001 ∧ 0 < E.length by
    rw [hE]
    have h4 := ends_len first (pts sp)
    have h5 := hD.len
    have h6 := hD.rd.1
    have h7 := pts_len sp
    unfold endsL
    omega)
  have HEm := Lib.hid (show ∀ x ∈ E, first ≤ x ∧ x < 2199023255552 from fun x hx => by
    rw [hE] at hx
    exact ends_mem (by have := hD.lo; omega) hD.hi hx hh)
  rw [← hE] at HEc
  clear hE hh
  have HP := Lib.hid hD.blk
  have HR := Lib.hid hD.rd
  have HDD := Lib.hid hD
  have hnI : (n : Int) ≤ 2000 := by have := hD.len; omega
  have hf0 := hD.lo.1
  have hf1 := hD.lo.2
  clear hD
  go_enter Tryd.func50, Tryd.ntmps50
  have HS0 := Lib.hid (Ms.start (o := Own.blk p 80 (dpA up first A n c)) HP.out)
  go_wp2_with fail
  refine (HEc.out _ (HDD.out.below (HS0.out.still HP.out))).mono ?_
  rintro e W1 ⟨AE, cE, rfl, hM⟩
  have HS1 := Lib.hid (HS0.out.made hM)
  clear hM HS0
  have hEI : (E.length : Int) ≤ 4001 := by have := HEl.out; omega
  have hE0 : (0 : Int) < (E.length : Int) := by have := HEl.out; omega
  have hEn : 0 < E.length := HEl.out.2.2
  have hEne : ¬ E = [] := List.ne_nil_of_length_pos HEl.out.2.2
  have hcE : (1 : Int) ≤ (cE : Int) := by have := (rowS_cap (HS1.out.ok 1 _ rfl)).1; have := HEl.out; omega
  obtain ⟨ed, hEe⟩ := HS1.out.adI 1 rfl HEl.out.2.2
  subst hEe
  obtain ⟨x0, hx0⟩ : ∃ x, E[0]? = some x := ⟨_, List.getElem?_eq_getElem HEl.out.2.2⟩
  have HX0 := Lib.hid (HEm.out x0 (List.mem_of_getElem? hx0))
  have e0 := HS1.out.cellI 1 rfl hx0
  rw [Addr.add_zero'] at e0
  clear hx0
  go_wp2_with fail
  refine (dfree_c p up first A n c sp x0 _ (HDD.out.below (HS1.out.still HP.out)) HX0.out.1 HX0.out.2).mono ?_
  rintro e W2 ⟨rfl, hb⟩
  have HS2 := Lib.hid (HS1.out.after hb)
  clear hb HS1
  clear e0
  go_wp2_with (first
    | (have hq := HS2; clear hq; (with_reducible refine atAlloc ?_); refine wpList_alloc_b rfl (some 5) rfl 24 (#[.int .u64 0, .int .u64 0, .int .u64 0, .int .u64 0]) (by kernel_rfl) ?_; intro g3 W3 hb hB hg; have HS3 := Lib.hid (HS2.out.new hb hB hg); clear hb hB hg HS2)
    | (have hq := HS3; clear hq; (with_reducible refine atStore ?_); refine wpList_store_at rfl 24 _ _ rfl (HS3.out.at_ 2 rfl) (nsV (frD up sp x0)) rfl rfl (by kernel_rfl) (Nat.le_of_ble_eq_true rfl) (by kernel_rfl) ?_; intro W4 hB hP; have HS4 := Lib.hid (HS3.out.put 2 rfl (new := (nsA (frD up sp x0))) hB hP); clear hB hP HS3))
  have HS5 := Lib.hid (HS4.out.nilS 3 1 inC)
  clear HS4
  go_loopw [7, 4] (fun i b wr => ∃ (kk n2 c2 : Nat) (A2 A3 : Option Addr) (c3 : Nat) (R3 : List Int) (sv : NS), 1 ≤ kk ∧ kk ≤ E.length ∧ i = .int .i64 (kk : Nat) ∧ b = .slice A2 n2 c2 ∧ n2 ≤ kk ∧ Hid ((A2 = A3 ∧ n2 = R3.length ∧ c2 = c3) ∨ (A2 = some ed ∧ n2 = 1 ∧ c2 = cE)) ∧ Hid (Ms w (Own.blk p 80 (dpA up first A n c)).bl [(.blk p 80 (dpA up first A n c)), rowI (some ed) cE E, .blk g3 24 (nsA sv), rowI A3 c3 R3] wr)) (fun i _ _ => E.length - (intOf i).toNat)
  case atStart => exact ⟨1, 1, cE, some ed, _, _, _, _, by omega, by omega, rfl, rfl, by omega, Lib.hid (.inr ⟨rfl, rfl, rfl⟩), HS5⟩
  case round =>
    obtain ⟨k, n2, c2, A2, A3, c3, R3, sv, hk1, hkn, rfl, rfl, hnk, HWH, HS6⟩ := hrel
    by_cases hlt : k < E.length
    · have hltI : (k : Int) < (E.length : Int) := by omega
      have hk0I : (0 : Int) ≤ (k : Int) := by omega
      obtain ⟨x, hx⟩ : ∃ x, E[k]? = some x := ⟨_, List.getElem?_eq_getElem hlt⟩
      have HX := Lib.hid hx
      have HXm := Lib.hid (HEm.out x (List.mem_of_getElem? hx))
      clear hx
      have e0 := HS6.out.cellI 1 rfl HX.out
      go_wp2_with fail
      refine (dfree_c p up first A n c sp x _ (HDD.out.below (HS6.out.still HP.out)) HXm.out.1 HXm.out.2).mono ?_
      rintro e W7 ⟨rfl, hb⟩
      have HS7 := Lib.hid (HS6.out.after hb)
      clear hb HS6
      clear e0
      by_cases hs : frD up sp x = sv
      · have HEQ := Lib.hid (fun w9 => show (Op.equalIn 10000 24 (nsV (frD up sp x)) (nsV sv)).run Tryd.prog w9 = .ok true w9 by rw [eqNs_run, hs]; simp)
        clear hs
        go_wp2_with (first
          | (have hq := HS7; clear hq; (with_reducible refine atAlloc ?_); refine wpList_alloc_b rfl (some 8) rfl 24 (#[.int .u64 0, .int .u64 0, .int .u64 0, .int .u64 0]) (by kernel_rfl) ?_; intro g8 W8 hb hB hg; have HS8 := Lib.hid (HS7.out.new hb hB hg); clear hb hB hg HS7)
          | (have hq := HS8; clear hq; (with_reducible refine atStore ?_); refine wpList_store_at rfl 24 _ _ rfl (HS8.out.at_ 4 rfl) (nsV (frD up sp x)) rfl rfl (by kernel_rfl) (Nat.le_of_ble_eq_true rfl) (by kernel_rfl) ?_; intro W9 hB hP; have HS9 := Lib.hid (HS8.out.put 4 rfl (new := (nsA (frD up sp x))) hB hP); clear hB hP HS8)
          | (have hq := HS9; clear hq; (with_reducible refine atLoad ?_); refine wpList_load_at rfl 24 _ rfl (HS9.out.at_ 4 rfl) 4 (nsV (frD up sp x)) rfl _ Tryd.underlying24 rfl (by kernel_rfl) (Nat.le_of_ble_eq_true rfl) rfl ?_)
          | (have hq := HS9; clear hq; (with_reducible refine atLoad ?_); refine wpList_load_at rfl 24 _ rfl (HS9.out.at_ 2 rfl) 4 (nsV sv) rfl _ Tryd.underlying24 rfl (by kernel_rfl) (Nat.le_of_ble_eq_true rfl) rfl ?_)
          | (have hq := HS9; clear hq; refine wpList_neq (by kernel_rfl) 24 _ _ _ rfl rfl rfl (by kernel_rfl) true (HEQ.out _) ?_))
        exact ⟨⟨k + 1, n2, c2, A2, A3, c3, R3, sv, by omega, by omega, by go_num, rfl, by omega, HWH, Lib.hid (Ms.cut (l := [(.blk p 80 (dpA up first A n c)), rowI (some ed) cE E, (.blk g3 24 (nsA sv)), rowI A3 c3 R3]) (k := [(.blk g8 24 (nsA (frD up sp x)))]) HS9.out)⟩, by simp [intOf]; omega⟩
      · have HEQ := Lib.hid (fun w9 => show (Op.equalIn 10000 24 (nsV (frD up sp x)) (nsV sv)).run Tryd.prog w9 = .ok false w9 by rw [eqNs_run]; simp [hs])
        clear hs
        go_wp2_with (first
          | (have hq := HS7; clear hq; (with_reducible refine atAlloc ?_); refine wpList_alloc_b rfl (some 8) rfl 24 (#[.int .u64 0, .int .u64 0, .int .u64 0, .int .u64 0]) (by kernel_rfl) ?_; intro g8 W8 hb hB hg; have HS8 := Lib.hid (HS7.out.new hb hB hg); clear hb hB hg HS7)
          | (have hq := HS8; clear hq; (with_reducible refine atStore ?_); refine wpList_store_at rfl 24 _ _ rfl (HS8.out.at_ 4 rfl) (nsV (frD up sp x)) rfl rfl (by kernel_rfl) (Nat.le_of_ble_eq_true rfl) (by kernel_rfl) ?_; intro W9 hB hP; have HS9 := Lib.hid (HS8.out.put 4 rfl (new := (nsA (frD up sp x))) hB hP); clear hB hP HS8)
          | (have hq := HS9; clear hq; (with_reducible refine atLoad ?_); refine wpList_load_at rfl 24 _ rfl (HS9.out.at_ 4 rfl) 4 (nsV (frD up sp x)) rfl _ Tryd.underlying24 rfl (by kernel_rfl) (Nat.le_of_ble_eq_true rfl) rfl ?_)
          | (have hq := HS9; clear hq; (with_reducible refine atLoad ?_); refine wpList_load_at rfl 24 _ rfl (HS9.out.at_ 2 rfl) 4 (nsV sv) rfl _ Tryd.underlying24 rfl (by kernel_rfl) (Nat.le_of_ble_eq_true rfl) rfl ?_)
          | (have hq := HS9; clear hq; refine wpList_neq (by kernel_rfl) 24 _ _ _ rfl rfl rfl (by kernel_rfl) false (HEQ.out _) ?_))
        obtain ⟨R, hRD⟩ : ∃ R, RdS 1 inC W9 A2 n2 R := by
          rcases HWH.out with ⟨rfl, rfl, rfl⟩ | ⟨rfl, rfl, rfl⟩
          · exact ⟨R3, HS9.out.rdS1 3 rfl rfl⟩
          · exact ⟨_, (HS9.out.rdS1 1 rfl rfl).take HEl.out.2.2⟩
        have HRD := Lib.hid hRD
        clear hRD
        have HB4 := Lib.hid (show n2 ≤ 4001 by have := HEl.out; omega)
        have HQ1 := Lib.hid (show (R ++ [x]).length = n2 + 1 by rw [List.length_append, HRD.out.1]; rfl)
        have HSd := Lib.hid ((HS9.out.after (Below.refl _ _).drew).nilS 3 1 inC)
        have HSb := Lib.hid ((HS9.out.new (alloc_b W9 (.cells #[.int .i64 x] 3)) (Blk.newd W9 3 #[.int .i64 x]) (Nat.le_refl _)).nilS 3 1 inC)
        refine Exists.elim (run_ints HSd.out 5 none 0 [] 0 rfl A2 n2 c2 R R n2 rfl HRD.out.1 rfl (HRD.out.below (Below.refl _ _).drew) (by have := HB4.out; omega)) ?_
        rintro A5 ⟨c5, X5, hr1, hM1⟩
        have hM1b := hM1.new (W' := X5.alloc (.cells #[.int .i64 x] 3)) ((Below.refl _ _).alloc (Nat.le_refl _) _) (Blk.new X5 3 #[.int .i64 x]) (Nat.le_refl _)
        refine Exists.elim (run_ints hM1b 5 A5 c5 R n2 HRD.out.1 (some ⟨X5.heap.size, 0, none⟩) 1 1 [x] (R ++ [x]) (n2 + 1) rfl HQ1.out rfl (rd_one (hM1b.at_ 6 rfl)) (by have := HB4.out; omega)) ?_
        rintro A6 ⟨c6, X6, hr2, hM2⟩
        refine Exists.elim (run_ints HSb.out 6 none 0 [] 0 rfl A2 n2 c2 R R n2 rfl HRD.out.1 rfl (HRD.out.below (alloc_b _ _)) (by have := HB4.out; omega)) ?_
        rintro B5 ⟨d5, V5, hs1, hK1⟩
        refine Exists.elim (run_ints hK1 6 B5 d5 R n2 HRD.out.1 (some ⟨W9.heap.size, 0, none⟩) 1 1 [x] (R ++ [x]) (n2 + 1) rfl HQ1.out rfl (rd_one (hK1.at_ 5 rfl)) (by have := HB4.out; omega)) ?_
        rintro B6 ⟨d6, V6, hs2, hK2⟩
        have Hhr1 := Lib.hid (fun (o : Oper) (a : Act) (K : Act → World → Prop) (Q : Exit → Act → World → Prop) (s9 x9 : Operand) (ho : o.op = .call { callee := .builtin .append, args := #[s9, x9], argTypes := #[103, 103] }) (hot : o.type = 103) (hs : a.eval s9 = (.slice none 0 0)) (hx : a.eval x9 = (.slice A2 n2 c2)) (hK : K (a.put o.dst (.slice A5 n2 c5)) X5) => (wp_append s9 x9 103 ho _ _ hs hx _ (by rw [hot]; exact hr1) hK : o.wp Tryd.prog a W9.drew K Q))
        have Hhr2 := Lib.hid (fun (o : Oper) (a : Act) (K : Act → World → Prop) (Q : Exit → Act → World → Prop) (s9 x9 : Operand) (ho : o.op = .call { callee := .builtin .append, args := #[s9, x9], argTypes := #[103, 103] }) (hot : o.type = 103) (hs : a.eval s9 = (.slice A5 n2 c5)) (hx : a.eval x9 = (.slice (some ⟨X5.heap.size, 0, none⟩) 1 1)) (hK : K (a.put o.dst (.slice A6 (n2 + 1) c6)) X6) => (wp_append s9 x9 103 ho _ _ hs hx _ (by rw [hot]; exact hr2) hK : o.wp Tryd.prog a (X5.alloc (.cells #[.int .i64 x] 3)) K Q))
        have Hhs1 := Lib.hid (fun (o : Oper) (a : Act) (K : Act → World → Prop) (Q : Exit → Act → World → Prop) (s9 x9 : Operand) (ho : o.op = .call { callee := .builtin .append, args := #[s9, x9], argTypes := #[103, 103] }) (hot : o.type = 103) (hs : a.eval s9 = (.slice none 0 0)) (hx : a.eval x9 = (.slice A2 n2 c2)) (hK : K (a.put o.dst (.slice B5 n2 d5)) V5) => (wp_append s9 x9 103 ho _ _ hs hx _ (by rw [hot]; exact hs1) hK : o.wp Tryd.prog a ((W9.alloc (.cells #[.int .i64 x] 3)).drew) K Q))
        have Hhs2 := Lib.hid (fun (o : Oper) (a : Act) (K : Act → World → Prop) (Q : Exit → Act → World → Prop) (s9 x9 : Operand) (ho : o.op = .call { callee := .builtin .append, args := #[s9, x9], argTypes := #[103, 103] }) (hot : o.type = 103) (hs : a.eval s9 = (.slice B5 n2 d5)) (hx : a.eval x9 = (.slice (some ⟨W9.heap.size, 0, none⟩) 1 1)) (hK : K (a.put o.dst (.slice B6 (n2 + 1) d6)) V6) => (wp_append s9 x9 103 ho _ _ hs hx _ (by rw [hot]; exact hs2) hK : o.wp Tryd.prog a V5 K Q))
        have f0 := Lib.hid (show W9.drew.cell? (ed.add k) = some (.int .i64 x) from HS9.out.cellI 1 rfl HX.out)
        have f1 := Lib.hid (show X5.cell? (ed.add k) = some (.int .i64 x) from hM1.cellI 1 rfl HX.out)
        have f2 := Lib.hid (show (X5.alloc (.cells #[.int .i64 x] 3)).cell? (ed.add k) = some (.int .i64 x) from hM1b.cellI 1 rfl HX.out)
        have f3 := Lib.hid (show X6.cell? (ed.add k) = some (.int .i64 x) from hM2.cellI 1 rfl HX.out)
        have f4 := Lib.hid (show ((W9.alloc (.cells #[.int .i64 x] 3)).drew).cell? (ed.add k) = some (.int .i64 x) from HSb.out.cellI 1 rfl HX.out)
        have f5 := Lib.hid (show V5.cell? (ed.add k) = some (.int .i64 x) from hK1.cellI 1 rfl HX.out)
        have f6 := Lib.hid (show V6.cell? (ed.add k) = some (.int .i64 x) from hK2.cellI 1 rfl HX.out)
        have HF1 := Lib.hid (hM2.selL [0, 1, 2, 5, 4] [(.blk p 80 (dpA up first A n c)), rowI (some ed) cE E, (.blk g3 24 (nsA sv)), rowI A6 c6 (R ++ [x]), (.blk g8 24 (nsA (frD up sp x)))] rfl (by decide))
        have HF2 := Lib.hid (hK2.selL [0, 1, 2, 6, 4] [(.blk p 80 (dpA up first A n c)), rowI (some ed) cE E, (.blk g3 24 (nsA sv)), rowI B6 d6 (R ++ [x]), (.blk g8 24 (nsA (frD up sp x)))] rfl (by decide))
        clear hM2 hK2
        clear hM1 hM1b hK1 HSd HSb hr1 hr2 hs1 hs2
        go_region_held3 (fun V => V.cell? (ed.add k) = some (.int .i64 x)) (first | with_reducible exact f0.out | with_reducible exact f1.out | with_reducible exact f2.out | with_reducible exact f3.out | with_reducible exact f4.out | with_reducible exact f5.out | with_reducible exact f6.out) (first | (rw [if_pos (by rfl)]; refine Hhr1.out _ _ _ _ _ _ rfl rfl rfl rfl ?_) | (rw [if_pos (by rfl)]; refine Hhr2.out _ _ _ _ _ _ rfl rfl rfl rfl ?_) | (rw [if_pos (by rfl)]; refine Hhs1.out _ _ _ _ _ _ rfl rfl rfl rfl ?_) | (rw [if_pos (by rfl)]; refine Hhs2.out _ _ _ _ _ _ rfl rfl rfl rfl ?_))
        all_goals (try simp only [Exit.then])
        all_goals first
          | (have HS40 := Lib.hid (show Ms w (Own.blk p 80 (dpA up first A n c)).bl [(.blk p 80 (dpA up first A n c)), rowI (some ed) cE E, (.blk g3 24 (nsA sv)), rowI A6 c6 (R ++ [x]), (.blk g8 24 (nsA (frD up sp x)))] X6 from HF1.out)
             clear HF1 HF2
             go_wp2_with (first
               | (have hq := HS40; clear hq; (with_reducible refine atLoad ?_); refine wpList_load_at rfl 24 _ rfl (HS40.out.at_ 4 rfl) 4 (nsV (frD up sp x)) rfl _ Tryd.underlying24 rfl (by kernel_rfl) (Nat.le_of_ble_eq_true rfl) rfl ?_)
               | (have hq := HS40; clear hq; (with_reducible refine atStore ?_); refine wpList_store_at rfl 24 _ _ rfl (HS40.out.at_ 2 rfl) (nsV (frD up sp x)) rfl rfl (by kernel_rfl) (Nat.le_of_ble_eq_true rfl) (by kernel_rfl) ?_; intro W41 hB hP; have HS41 := Lib.hid (HS40.out.put 2 rfl (new := (nsA (frD up sp x))) hB hP); clear hB hP HS40))
             exact ⟨⟨k + 1, n2 + 1, c6, A6, A6, c6, R ++ [x], _, by omega, by omega, by go_num, rfl, by omega, Lib.hid (.inl ⟨rfl, HQ1.out.symm, rfl⟩), Lib.hid (Ms.cut (l := [(.blk p 80 (dpA up first A n c)), rowI (some ed) cE E, (.blk g3 24 (nsA (frD up sp x))), rowI A6 c6 (R ++ [x])]) (k := [(.blk g8 24 (nsA (frD up sp x)))]) HS41.out)⟩, by simp [intOf]; omega⟩)
          | (have HS40 := Lib.hid (show Ms w (Own.blk p 80 (dpA up first A n c)).bl [(.blk p 80 (dpA up first A n c)), rowI (some ed) cE E, (.blk g3 24 (nsA sv)), rowI B6 d6 (R ++ [x]), (.blk g8 24 (nsA (frD up sp x)))] V6 from HF2.out)
             clear HF1 HF2
             go_wp2_with (first
               | (have hq := HS40; clear hq; (with_reducible refine atLoad ?_); refine wpList_load_at rfl 24 _ rfl (HS40.out.at_ 4 rfl) 4 (nsV (frD up sp x)) rfl _ Tryd.underlying24 rfl (by kernel_rfl) (Nat.le_of_ble_eq_true rfl) rfl ?_)
               | (have hq := HS40; clear hq; (with_reducible refine atStore ?_); refine wpList_store_at rfl 24 _ _ rfl (HS40.out.at_ 2 rfl) (nsV (frD up sp x)) rfl rfl (by kernel_rfl) (Nat.le_of_ble_eq_true rfl) (by kernel_rfl) ?_; intro W41 hB hP; have HS41 := Lib.hid (HS40.out.put 2 rfl (new := (nsA (frD up sp x))) hB hP); clear hB hP HS40))
             exact ⟨⟨k + 1, n2 + 1, d6, B6, B6, d6, R ++ [x], _, by omega, by omega, by go_num, rfl, by omega, Lib.hid (.inl ⟨rfl, HQ1.out.symm, rfl⟩), Lib.hid (Ms.cut (l := [(.blk p 80 (dpA up first A n c)), rowI (some ed) cE E, (.blk g3 24 (nsA (frD up sp x))), rowI B6 d6 (R ++ [x])]) (k := [(.blk g8 24 (nsA (frD up sp x)))]) HS41.out)⟩, by simp [intOf]; omega⟩)
    · obtain rfl : k = E.length := by omega
      go_wp2_with fail
      go_ret
      exact ⟨A2, n2, c2, rfl, by have := HEl.out; omega, HS6.out.still HP.out⟩
end Go.Proofs.YtkgphbjneaagoaaDoor

set_option linter.unusedVariables false
set_option maxRecDepth 100000
namespace Go.Proofs.YtkgphbjneaagoaaDoor
open Go.RowKit Go.Sort

abbrev rowSn := rowS 106 3 snC
/-- The profile as an object. -/
abbrev dpO (p : Nat) (up : NS) (first : Int) (A : Option Addr) (c : Nat) (sp : List Sn) : List Own := [.blk p 80 (dpA up first A sp.length c), rowSn A c sp]
/-- What its spans are. -/
structure DpF (first : Int) (sp : List Sn) : Prop where
  len : sp.length ≤ 2000
  lo : 0 ≤ first ∧ first ≤ 1099511627776
  hi : ∀ s ∈ sp, s.lo ≤ 2199023255552 ∧ s.hi ≤ 2199023255552 ∧ first ≤ s.lo
  lh : ∀ s ∈ sp, s.lo ≤ s.hi
theorem DpF.rd {first : Int} {sp : List Sn} (h : DpF first sp) {W : World} {p : Nat} {up : NS} {A : Option Addr} {n c : Nat} (hB : Blk W p 80 (dpA up first A n c)) (hR : RdSn W A n sp) : DpR W p up first A n c sp :=
  ⟨hB, hR, by have := h.len; have := hR.1; omega, h.lo, h.hi⟩
theorem DpF.at_ {first : Int} {sp : List Sn} (h : DpF first sp) {w W : World} {ex : Nat → Prop} {L : List Own} (hM : Ms w ex L W) (i j : Nat) {p : Nat} {up : NS} {A : Option Addr} {c : Nat} (hi : L[i]? = some (.blk p 80 (dpA up first A sp.length c))) (hj : L[j]? = some (rowSn A c sp)) : DpR W p up first A sp.length c sp :=
  h.rd (hM.at_ i hi) (rowS_read (fun _ => rfl) (hM.ok j _ hj))
theorem DpF.take {first : Int} {sp : List Sn} {k : Nat} (h : DpF first sp) : DpF first (sp.take k) :=
  ⟨by have := h.len; have := List.length_take_le' k sp; omega, h.lo, fun s hs => h.hi s (List.mem_of_mem_take hs), fun s hs => h.lh s (List.mem_of_mem_take hs)⟩
theorem DpF.snoc {first : Int} {sp : List Sn} {s : NS} {lo hi : Int} (h : DpF first sp) (h0 : first ≤ lo) (h1 : lo < hi) (h2 : hi ≤ 2199023255552) (hn : sp.length + (lst s).length ≤ 2000) : DpF first (sp ++ snL s lo hi) := by
  have key : ∀ x ∈ snL s lo hi, x.lo = lo ∧ x.hi = hi := fun x hx => by
    obtain ⟨b, _, rfl⟩ := List.mem_map.1 hx
    exact ⟨rfl, rfl⟩
  refine ⟨by unfold snL; simpa using hn, h.lo, fun x hx => ?_, fun x hx => ?_⟩
  · rcases List.mem_append.1 hx with h3 | h3
    · exact h.hi x h3
    · have := key x h3; omega
  · rcases List.mem_append.1 hx with h3 | h3
    · exact h.lh x h3
    · have := key x h3; omega
theorem run_sns {w W : World} {ex : Nat → Prop} {L : List Own} (h : Ms w ex L W) (i : Nat) (A : Option Addr) (cap : Nat) (l : List Sn) (ln : Nat) (hln : l.length = ln) (A2 : Option Addr) (n2 c2 : Nat) (l2 zs : List Sn) (n' : Nat) (hzs' : l ++ l2 = zs) (hn' : zs.length = n') (hrow : L[i]? = some (rowSn A cap l))
    (hR : RdSn W A2 n2 l2) (hlen : ln + n2 ≤ 100000) :
    ∃ A' c' W', (Builtin.append_ #[78, 78] 78 #[.slice A ln cap, .slice A2 n2 c2]).run Tryd.prog W = .ok (.slice A' n' c') W' ∧ Ms w ex (L.set i (rowSn A' c' zs)) W' :=
  run_rd h i 78 78 106 3 24 snC (.agg #[.int .i64 0, .int .i64 0, .int .i64 0]) Tryd.underlying78 (by kernel_rfl) rfl (by decide) A cap l ln hln A2 n2 c2 l2 zs n' hzs' hn' hrow hR (fun _ => rfl) (fun _ => rfl) (by omega) (by simp only [maxLen]; omega)
theorem rdsn_one {w : World} {g : Nat} {t : TypeId} {a b c : Int} (h : Blk w g t #[.int .i64 a, .int .i64 b, .int .i64 c]) : RdSn w (some ⟨g, 0, none⟩) 1 [⟨a, b, c⟩] := rds_blk (k := 3) (c := snC) (l := [⟨a, b, c⟩]) (fun _ => rfl) h (by simp) rfl
theorem snL_take (L : List Int) (lo hi : Int) {k : Nat} {x : Int} (h : L[k]? = some x) : (L.take (k + 1)).map (fun b => (⟨b, lo, hi⟩ : Sn)) = (L.take k).map (fun b => (⟨b, lo, hi⟩ : Sn)) ++ [⟨x, lo, hi⟩] := by
  rw [take_one h, List.map_append]
  rfl
set_option maxHeartbeats 64000000 in
theorem dtake_c (p : Nat) (up : NS) (first : Int) (A : Option Addr) (c : Nat) (sp : List Sn) (s : NS) (lo hi : Int) (w : World) (hO : (Own.all (dpO p up first A c sp)).ok w) (hF : DpF first sp) (h0 : first ≤ lo) (h1 : lo < hi) (h2 : hi ≤ 2199023255552)
    (hn : sp.length + (lst s).length ≤ 2000) (hup : notS s up = emptyS) (hdu : notS s (durD up sp (endsL first sp) lo hi) = emptyS) :
    Calls Tryd.prog 33 #[.pointer (some ⟨p, 0, none⟩), nsV s, .int .i64 lo, .int .i64 hi] w fun e w' => e = .returned (.int .i64 0) ∧ ∃ A' c', Ms w (Own.all (dpO p up first A c sp)).bl (dpO p up first A' c' (sp ++ snL s lo hi)) w' := by
  have HO := Lib.hid hO
  have HF := Lib.hid hF
  have HLH := Lib.hid (And.intro h0 (And.intro h1 h2))
  obtain ⟨DU, hDU⟩ : ∃ DU, DU = durD up sp (endsL first sp) lo hi := ⟨_, rfl⟩
  have HDU := Lib.hid (fun (W : World) (h : DpR W p up first A sp.length c sp) => dduring_c p up first A sp.length c sp lo hi W h h0 h1 h2)
  rw [← hDU] at hdu HDU
  have HUP := Lib.hid (fun w9 => show (Op.equalIn 10000 24 (nsV (notS s up)) (nsV emptyS)).run Tryd.prog w9 = .ok true w9 by rw [eqNs_run, hup]; simp)
  have HDE := Lib.hid (fun w9 => show (Op.equalIn 10000 24 (nsV (notS s DU)) (nsV emptyS)).run Tryd.prog w9 = .ok true w9 by rw [eqNs_run, hdu]; simp)
  obtain ⟨L, hL⟩ : ∃ L, L = lst s := ⟨_, rfl⟩
  have HLM := Lib.hid (fun (w : World) => rlist_m s w)
  have HFS := Lib.hid (hF.snoc (s := s) h0 h1 h2 hn)
  have HSN := Lib.hid (show snL s lo hi = L.map (fun b => (⟨b, lo, hi⟩ : Sn)) by rw [hL]; rfl)
  rw [← hL] at HLM hn
  have HLn := Lib.hid (show sp.length + L.length ≤ 2000 from hn)
  obtain ⟨SN, hSN⟩ : ∃ SN, SN = snL s lo hi := ⟨_, rfl⟩
  rw [← hSN] at HSN HFS ⊢
  have hLI : (L.length : Int) ≤ 2000 := by omega
  have hnI : (sp.length : Int) ≤ 2000 := by omega
  clear hO hF h0 h1 h2 hup hdu hDU hL hn hSN
  go_enter Tryd.func33, Tryd.ntmps33
  have HS0 := Lib.hid (Ms.open_ HO.out)
  go_wp2_with (have hq := HS0; clear hq; (with_reducible refine atBox ?_); refine wpList_alloc_b rfl (some 5) rfl 24 ((nsA s)) (by kernel_rfl) ?_; intro g1 W1 hb hB hg; have HS1 := Lib.hid (HS0.out.new hb hB hg); clear hb hB hg HS0)
  refine (dspan_c p up first A sp.length c sp lo hi _ (HF.out.at_ HS1.out 0 1 rfl rfl) HLH.out.1 HLH.out.2.1 HLH.out.2.2).mono ?_
  rintro e W2 ⟨rfl, hb⟩
  have HS2 := Lib.hid (HS1.out.after hb)
  clear hb HS1
  go_wp2_with fail
  refine region_b (Ms w (Own.all (dpO p up first A c sp)).bl _) (by kernel_rfl) (by kernel_rfl) HS2.out ?_
  clear HS2
  intro W3 hS
  have HC0 := Lib.hid (fun (d : Nat) (os : Array Obj) => rnot_c s up (grow (redrawn W3 d) os))
  have HS3 := Lib.hid hS
  clear hS
  repeat (first | go_big_quiet_skip | (refine wpQuiet_neq (by kernel_rfl) 24 _ _ _ rfl rfl rfl (by kernel_rfl) true (fun w9 => HUP.out _) ?_) | (refine wpQuiet_load_b (by kernel_rfl) 24 _ rfl (HS3.out.at_ 2 rfl) 4 (nsV s) rfl _ Tryd.underlying24 rfl (by kernel_rfl) (Nat.le_of_ble_eq_true rfl) rfl ?_) | (refine wpQuiet_load_b (by kernel_rfl) 24 _ rfl (HS3.out.at_ 0 rfl) 4 (.agg #[.int .u64 (wn up 0 : Nat), .int .u64 (wn up 1 : Nat), .int .u64 (wn up 2 : Nat), .int .u64 (wn up 3 : Nat)]) rfl _ Tryd.underlying24 rfl (by kernel_rfl) (Nat.le_of_ble_eq_true rfl) rfl ?_) | go_big_quiet_step (first | with_reducible exact Calls.regrown_of (HC0.out _ _)) | quiet_step (first | with_reducible exact Calls.regrown_of (HC0.out _ _)))
  refine wpQuiet_nil ?_
  intro W4 hb
  have HS4 := Lib.hid (HS3.out.after hb)
  clear hb HS3 HC0
  go_wp2_with fail
  refine (HDU.out _ (HF.out.at_ HS4.out 0 1 rfl rfl)).mono ?_
  rintro e W5 ⟨rfl, hb⟩
  have HS5 := Lib.hid (HS4.out.after hb)
  clear hb HS4
  go_wp2_with (first
    | (have hq := HS5; clear hq; (with_reducible refine atAlloc ?_); refine wpList_alloc_b rfl (some 9) rfl 24 (#[.int .u64 0, .int .u64 0, .int .u64 0, .int .u64 0]) (by kernel_rfl) ?_; intro g6 W6 hb hB hg; have HS6 := Lib.hid (HS5.out.new hb hB hg); clear hb hB hg HS5)
    | (have hq := HS6; clear hq; (with_reducible refine atStore ?_); refine wpList_store_at rfl 24 _ _ rfl (HS6.out.at_ 3 rfl) (nsV DU) rfl rfl (by kernel_rfl) (Nat.le_of_ble_eq_true rfl) (by kernel_rfl) ?_; intro W7 hB hP; have HS7 := Lib.hid (HS6.out.put 3 rfl (new := (nsA DU)) hB hP); clear hB hP HS6)
    | (have hq := HS7; clear hq; (with_reducible refine atLoad ?_); refine wpList_load_at rfl 24 _ rfl (HS7.out.at_ 2 rfl) 4 (nsV s) rfl _ Tryd.underlying24 rfl (by kernel_rfl) (Nat.le_of_ble_eq_true rfl) rfl ?_)
    | (have hq := HS7; clear hq; (with_reducible refine atLoad ?_); refine wpList_load_at rfl 24 _ rfl (HS7.out.at_ 3 rfl) 4 (nsV DU) rfl _ Tryd.underlying24 rfl (by kernel_rfl) (Nat.le_of_ble_eq_true rfl) rfl ?_))
  refine (rnot_c s DU _).mono ?_
  rintro e W8 ⟨rfl, hb⟩
  have HS8 := Lib.hid (HS7.out.after hb)
  clear hb HS7
  go_wp2_with (first
    | (have hq := HS8; clear hq; refine wpList_neq (by kernel_rfl) 24 _ _ _ rfl rfl rfl (by kernel_rfl) true (HDE.out _) ?_)
    | (have hq := HS8; clear hq; (with_reducible refine atLoad ?_); refine wpList_load_at rfl 80 _ rfl (HS8.out.at_ 0 rfl) 6 (.agg (dpA up first A sp.length c)) rfl _ Tryd.underlying80 rfl (by kernel_rfl) (Nat.le_of_ble_eq_true rfl) rfl ?_)
    | (have hq := HS8; clear hq; (with_reducible refine atAlloc ?_); refine wpList_alloc_b rfl (some 11) rfl 80 (#[.int .u64 0, .int .u64 0, .int .u64 0, .int .u64 0, .int .i64 0, .slice none 0 0]) (by kernel_rfl) ?_; intro g9 W9 hb hB hg; have HS9 := Lib.hid (HS8.out.new hb hB hg); clear hb hB hg HS8)
    | (have hq := HS9; clear hq; (with_reducible refine atStore ?_); refine wpList_store_at rfl 80 _ _ rfl (HS9.out.at_ 4 rfl) (.agg (dpA up first A sp.length c)) rfl rfl (by kernel_rfl) (Nat.le_of_ble_eq_true rfl) (by kernel_rfl) ?_; intro W10 hB hP; have HS10 := Lib.hid (HS9.out.put 4 rfl (new := (dpA up first A sp.length c)) hB hP); clear hB hP HS9)
    | (have hq := HS10; clear hq; (with_reducible refine atLoad ?_); refine wpList_load_at rfl 24 _ rfl (HS10.out.at_ 2 rfl) 4 (nsV s) rfl _ Tryd.underlying24 rfl (by kernel_rfl) (Nat.le_of_ble_eq_true rfl) rfl ?_))
  refine (HLM.out _).mono ?_
  rintro e W11 ⟨AL, cL, rfl, hM⟩
  have HS11 := Lib.hid (HS10.out.made hM)
  clear hM HS10
  go_wp2_with fail
  have HS12 := Lib.hid (HS11.out.nilS 106 3 snC)
  clear HS11
  go_loopw [13] (fun i wr => ∃ (kk n2 c2 : Nat) (A2 A3 : Option Addr) (c3 : Nat) (R3 : List Sn), kk ≤ L.length ∧ i = .int .i64 (kk : Nat) ∧ Hid (((sp ++ (L.take kk).map (fun b => (⟨b, lo, hi⟩ : Sn))) = R3 ∧ A2 = A3 ∧ n2 = R3.length ∧ c2 = c3) ∨ (kk = 0 ∧ A2 = A ∧ n2 = sp.length ∧ c2 = c)) ∧ Hid (Ms w (Own.all (dpO p up first A c sp)).bl [(.blk p 80 (dpA up first A sp.length c)), rowSn A c sp, (.blk g1 24 (nsA s)), (.blk g6 24 (nsA DU)), .blk g9 80 (dpA up first A2 n2 c2), rowI AL cL L, rowSn A3 c3 R3] wr)) (fun i _ => L.length - (intOf i).toNat)
  case atStart => exact ⟨0, sp.length, c, A, _, _, _, by omega, rfl, Lib.hid (.inr ⟨rfl, rfl, rfl, rfl⟩), HS12⟩
  case round =>
    obtain ⟨k, n2, c2, A2, A3, c3, R3, hkn, rfl, HWH, HS13⟩ := hrel
    have HRD := Lib.hid (show RdSn wr A2 n2 (sp ++ (L.take k).map (fun b => (⟨b, lo, hi⟩ : Sn))) from by
      rcases HWH.out with ⟨rfl, rfl, rfl, rfl⟩ | ⟨rfl, rfl, rfl, rfl⟩
      · exact rowS_read (fun _ => rfl) (HS13.out.ok 6 _ rfl)
      · simpa using rowS_read (k := 3) (c := snC) (fun _ => rfl) (HS13.out.ok 1 _ rfl))
    obtain ⟨R, hR⟩ : ∃ R, R = (sp ++ (L.take k).map (fun b => (⟨b, lo, hi⟩ : Sn))) := ⟨_, rfl⟩
    have HRe := Lib.hid hR
    rw [← hR] at HRD HWH
    clear hR
    have HB4 := Lib.hid (show n2 ≤ 2000 ∧ sp.length + k = n2 from by
      have h1 := HRD.out.1
      rw [HRe.out, List.length_append, List.length_map, List.length_take] at h1
      have := HLn.out
      omega)
    by_cases hlt : k < L.length
    · have hltI : (k : Int) < (L.length : Int) := by omega
      have hk0I : (0 : Int) ≤ (k : Int) := by omega
      obtain ⟨x, hx⟩ : ∃ x, L[k]? = some x := ⟨_, List.getElem?_eq_getElem hlt⟩
      have HX := Lib.hid hx
      clear hx
      obtain ⟨ed, hEe⟩ := HS13.out.adI 5 rfl (by omega)
      subst hEe
      have HNX := Lib.hid (show (sp ++ (L.take (k + 1)).map (fun b => (⟨b, lo, hi⟩ : Sn))) = R ++ [(⟨x, lo, hi⟩ : Sn)] by rw [snL_take L lo hi HX.out, HRe.out, List.append_assoc])
      go_wp2_with fail
      have HQ1 := Lib.hid (show (R ++ [(⟨x, lo, hi⟩ : Sn)]).length = n2 + 1 by rw [List.length_append, HRD.out.1]; rfl)
      have HSd := Lib.hid ((HS13.out.after (Below.refl _ _).drew).nilS 106 3 snC)
      have HSb := Lib.hid ((HS13.out.new (alloc_b wr (.cells #[.int .i64 x, .int .i64 lo, .int .i64 hi] 106)) (Blk.newd wr 106 #[.int .i64 x, .int .i64 lo, .int .i64 hi]) (Nat.le_refl _)).nilS 106 3 snC)
      refine Exists.elim (run_sns HSd.out 7 none 0 [] 0 rfl A2 n2 c2 R R n2 rfl HRD.out.1 rfl (HRD.out.below (Below.refl _ _).drew) (by have := HB4.out; omega)) ?_
      rintro A5 ⟨c5, X5, hr1, hM1⟩
      have hM1b := hM1.new (W' := X5.alloc (.cells #[.int .i64 x, .int .i64 lo, .int .i64 hi] 106)) ((Below.refl _ _).alloc (Nat.le_refl _) _) (Blk.new X5 106 #[.int .i64 x, .int .i64 lo, .int .i64 hi]) (Nat.le_refl _)
      refine Exists.elim (run_sns hM1b 7 A5 c5 R n2 HRD.out.1 (some ⟨X5.heap.size, 0, none⟩) 1 1 [(⟨x, lo, hi⟩ : Sn)] (R ++ [(⟨x, lo, hi⟩ : Sn)]) (n2 + 1) rfl HQ1.out rfl (rdsn_one (hM1b.at_ 8 rfl)) (by have := HB4.out; omega)) ?_
      rintro A6 ⟨c6, X6, hr2, hM2⟩
      refine Exists.elim (run_sns HSb.out 8 none 0 [] 0 rfl A2 n2 c2 R R n2 rfl HRD.out.1 rfl (HRD.out.below (alloc_b _ _)) (by have := HB4.out; omega)) ?_
      rintro B5 ⟨d5, V5, hs1, hK1⟩
      refine Exists.elim (run_sns hK1 8 B5 d5 R n2 HRD.out.1 (some ⟨wr.heap.size, 0, none⟩) 1 1 [(⟨x, lo, hi⟩ : Sn)] (R ++ [(⟨x, lo, hi⟩ : Sn)]) (n2 + 1) rfl HQ1.out rfl (rdsn_one (hK1.at_ 7 rfl)) (by have := HB4.out; omega)) ?_
      rintro B6 ⟨d6, V6, hs2, hK2⟩
      have Hhr1 := Lib.hid (fun (o : Oper) (a : Act) (K : Act → World → Prop) (Q : Exit → Act → World → Prop) (s9 x9 : Operand) (ho : o.op = .call { callee := .builtin .append, args := #[s9, x9], argTypes := #[78, 78] }) (hot : o.type = 78) (hs : a.eval s9 = (.slice none 0 0)) (hx : a.eval x9 = (.slice A2 n2 c2)) (hK : K (a.put o.dst (.slice A5 n2 c5)) X5) => (wp_append s9 x9 78 ho _ _ hs hx _ (by rw [hot]; exact hr1) hK : o.wp Tryd.prog a wr.drew K Q))
      have Hhr2 := Lib.hid (fun (o : Oper) (a : Act) (K : Act → World → Prop) (Q : Exit → Act → World → Prop) (s9 x9 : Operand) (ho : o.op = .call { callee := .builtin .append, args := #[s9, x9], argTypes := #[78, 78] }) (hot : o.type = 78) (hs : a.eval s9 = (.slice A5 n2 c5)) (hx : a.eval x9 = (.slice (some ⟨X5.heap.size, 0, none⟩) 1 1)) (hK : K (a.put o.dst (.slice A6 (n2 + 1) c6)) X6) => (wp_append s9 x9 78 ho _ _ hs hx _ (by rw [hot]; exact hr2) hK : o.wp Tryd.prog a (X5.alloc (.cells #[.int .i64 x, .int .i64 lo, .int .i64 hi] 106)) K Q))
      have Hhs1 := Lib.hid (fun (o : Oper) (a : Act) (K : Act → World → Prop) (Q : Exit → Act → World → Prop) (s9 x9 : Operand) (ho : o.op = .call { callee := .builtin .append, args := #[s9, x9], argTypes := #[78, 78] }) (hot : o.type = 78) (hs : a.eval s9 = (.slice none 0 0)) (hx : a.eval x9 = (.slice A2 n2 c2)) (hK : K (a.put o.dst (.slice B5 n2 d5)) V5) => (wp_append s9 x9 78 ho _ _ hs hx _ (by rw [hot]; exact hs1) hK : o.wp Tryd.prog a ((wr.alloc (.cells #[.int .i64 x, .int .i64 lo, .int .i64 hi] 106)).drew) K Q))
      have Hhs2 := Lib.hid (fun (o : Oper) (a : Act) (K : Act → World → Prop) (Q : Exit → Act → World → Prop) (s9 x9 : Operand) (ho : o.op = .call { callee := .builtin .append, args := #[s9, x9], argTypes := #[78, 78] }) (hot : o.type = 78) (hs : a.eval s9 = (.slice B5 n2 d5)) (hx : a.eval x9 = (.slice (some ⟨wr.heap.size, 0, none⟩) 1 1)) (hK : K (a.put o.dst (.slice B6 (n2 + 1) d6)) V6) => (wp_append s9 x9 78 ho _ _ hs hx _ (by rw [hot]; exact hs2) hK : o.wp Tryd.prog a V5 K Q))
      have f0 : wr.cell? (ed.add k) = some (.int .i64 x) := HS13.out.cellI 5 rfl HX.out
      have f1 : X5.cell? (ed.add k) = some (.int .i64 x) := hM1.cellI 5 rfl HX.out
      have f5 : V5.cell? (ed.add k) = some (.int .i64 x) := hK1.cellI 5 rfl HX.out
      obtain ⟨u0a, u0b, u0c⟩ := HS13.out.rules 4 rfl
      obtain ⟨u1a, u1b, u1c⟩ := hM1.rules 4 rfl
      obtain ⟨u5a, u5b, u5c⟩ := hK1.rules 4 rfl
      obtain ⟨u2a, u2b, u2c⟩ := hM2.rules 4 rfl
      obtain ⟨u3a, u3b, u3c⟩ := hK2.rules 4 rfl
      have HF1 := Lib.hid ((hM2.put 4 rfl ((hM2.at_ 4 rfl).set_ 5 (.slice A6 (n2 + 1) c6)) (put_one X6 g9 5 _)).selL [0, 1, 2, 3, 4, 5, 7] [(.blk p 80 (dpA up first A sp.length c)), rowSn A c sp, (.blk g1 24 (nsA s)), (.blk g6 24 (nsA DU)), .blk g9 80 (dpA up first A6 (n2 + 1) c6), rowI (some ed) cL L, rowSn A6 c6 (R ++ [(⟨x, lo, hi⟩ : Sn)])] rfl (by decide))
      have HF2 := Lib.hid ((hK2.put 4 rfl ((hK2.at_ 4 rfl).set_ 5 (.slice B6 (n2 + 1) d6)) (put_one V6 g9 5 _)).selL [0, 1, 2, 3, 4, 5, 8] [(.blk p 80 (dpA up first A sp.length c)), rowSn A c sp, (.blk g1 24 (nsA s)), (.blk g6 24 (nsA DU)), .blk g9 80 (dpA up first B6 (n2 + 1) d6), rowI (some ed) cL L, rowSn B6 d6 (R ++ [(⟨x, lo, hi⟩ : Sn)])] rfl (by decide))
      clear hM2 hK2
      clear hM1 hM1b hK1 HSd HSb hr1 hr2 hs1 hs2
      go_region_law (first | (rw [if_pos (by rfl)]; refine Hhr1.out _ _ _ _ _ _ rfl rfl rfl rfl ?_) | (rw [if_pos (by rfl)]; refine Hhr2.out _ _ _ _ _ _ rfl rfl rfl rfl ?_) | (rw [if_pos (by rfl)]; refine Hhs1.out _ _ _ _ _ _ rfl rfl rfl rfl ?_) | (rw [if_pos (by rfl)]; refine Hhs2.out _ _ _ _ _ _ rfl rfl rfl rfl ?_))
      all_goals (try simp only [Exit.inBlock, Exit.then])
      all_goals clear u0a u0b u0c u1a u1b u1c u2a u2b u2c u3a u3b u3c u5a u5b u5c f0 f1 f5
      all_goals go_wp2_with fail
      all_goals first
        | exact ⟨⟨k + 1, n2 + 1, c6, A6, A6, c6, R ++ [(⟨x, lo, hi⟩ : Sn)], by omega, by go_num, Lib.hid (.inl ⟨HNX.out, rfl, HQ1.out.symm, rfl⟩), HF1⟩, by simp [intOf]; omega⟩
        | exact ⟨⟨k + 1, n2 + 1, d6, B6, B6, d6, R ++ [(⟨x, lo, hi⟩ : Sn)], by omega, by go_num, Lib.hid (.inl ⟨HNX.out, rfl, HQ1.out.symm, rfl⟩), HF2⟩, by simp [intOf]; omega⟩
    · obtain rfl : k = L.length := by omega
      have HRS := Lib.hid (show R = sp ++ SN by rw [HRe.out, List.take_length, HSN.out])
      have hsl : (sp ++ SN).length = n2 := by rw [← HRS.out]; exact HRD.out.1
      have HDF := Lib.hid HFS.out
      rw [← HRS.out] at HDF hsl
      go_wp2_with fail
      refine (dsteps_c g9 up first A2 n2 c2 R _ (HDF.out.rd (HS13.out.at_ 4 rfl) HRD.out) HDF.out.lh).mono ?_
      rintro e W14 ⟨AQ, mQ, cQ, rfl, hmQ, hb⟩
      have HS14 := Lib.hid (HS13.out.after hb)
      clear hb HS13
      have hmI : (mQ : Int) ≤ 4096 := by have := HB4.out; omega
      go_wp2_with (first
        | (have hq := HS14; clear hq; (with_reducible refine atLoad ?_); refine wpList_load_at rfl 80 _ rfl (HS14.out.at_ 4 rfl) 6 (.agg (dpA up first A2 n2 c2)) rfl _ Tryd.underlying80 rfl (by kernel_rfl) (Nat.le_of_ble_eq_true rfl) rfl ?_)
        | (have hq := HS14; clear hq; (with_reducible refine atStore ?_); refine wpList_store_at rfl 80 _ _ rfl (HS14.out.at_ 0 rfl) (.agg (dpA up first A2 n2 c2)) rfl rfl (by kernel_rfl) (Nat.le_of_ble_eq_true rfl) (by kernel_rfl) ?_; intro W15 hB hP; have HS15 := Lib.hid (HS14.out.put 0 rfl (new := (dpA up first A2 n2 c2)) hB hP); clear hB hP HS14))
      go_ret
      rw [← HRS.out]
      rcases HWH.out with ⟨rfl, rfl, rfl, rfl⟩ | ⟨e1, rfl, rfl, rfl⟩
      · refine ⟨rfl, A2, c2, ?_⟩
        exact HS15.out.selL [0, 6] _ rfl (by decide)
      · refine ⟨rfl, A2, c2, ?_⟩
        have e2 : R = sp := by rw [HRe.out, e1]; simp
        rw [e2]
        exact HS15.out.selL [0, 1] _ rfl (by decide)
end Go.Proofs.YtkgphbjneaagoaaDoor

set_option linter.unusedVariables false
namespace Go.Proofs.YtkgphbjneaagoaaDoor
open Go.RowKit Go.Sort

/-- m: the operations that read and call; n - m blocks are laid behind them in the text; the rest stores in one forced order. -/
theorem region_bl_any {P : Program} {Q : Exit → Act → World → Prop} {a : Act} {w : World} {l : List Oper} (m n : Nat) (ob : Nat → Obj) (S : World → Prop) (hB : Region.lexTailB .any l.toArray n = true) (hmn : m ≤ n) (hS : S w) (hLay : Lays P l.toArray m n ob)
    (h : ∀ W, S W → wpG P l.toArray W (fun a' => wpB W ob (fun A a'' => ∀ w', Below W.heap.size W w' → okB A w' → wpList P l.toArray Q (l.drop n) a'' w') ((l.drop m).take (n - m)) m (fun _ => none) a') (l.take m) a) : wpAny P .any l.toArray Q l.toArray.size (Array.replicate l.toArray.size false) a w.drew := by
  simp only [Region.lexTailB, Bool.and_eq_true, decide_eq_true_eq] at hB
  obtain ⟨⟨⟨⟨hsel, hn⟩, hs⟩, hc⟩, hlex⟩ := hB
  have hnl : n < l.length := by simpa using hn
  have htl : (l.take m).length = m := by simp; omega
  have hbl : ((l.drop m).take (n - m)).length = n - m := by simp; omega
  have hdl : (l.drop n).length = l.toArray.size - n := by simp
  have inv0 : HeadInv .any l.toArray n (Array.replicate l.toArray.size false) :=
    ⟨by simp, fun j oj _ hl => (by rw [getD_replicate_false] at hl; cases hl), fun t _ ht => getD_in (by simpa using ht) (getD_replicate_false _ _)⟩
  have H := headF_lex (md := .any) (g := l.toArray.size - n) (A := fun _ => none) (lb := (l.drop m).take (n - m)) ⟨w.heap.size, fun g hg => ⟨rfl, hg⟩⟩ hsel hs hc hn (fun j hj => by
      rw [hbl] at hj
      simp [hj]) (by rw [hbl]; omega) (l.take m) 0 _ a (fun j hj => by
    have hj' : j < m := by rw [htl] at hj; exact hj
    simp [hj']) (by simpa using htl) (fun j hj => by omega) inv0 (by rw [htl, hbl, show m + (n - m) = n by omega]; exact hlex) (h w hS)
  have := any_of_headF (md := .any) (W := w) (R := Q) (g := l.toArray.size - n) (L := fun done' A' a' => Region.seqB .any l.toArray (l.toArray.size - n) n done' = true ∧ ∀ w', Below w.heap.size w w' → okB A' w' → wpList P l.toArray Q (l.drop n) a' w') hLay (fun done A a' W' hW hA hL => by
    have h2 := hL.2 W' hW hA
    have h3 := wpAny_of_seq (md := .any) (l.drop n) n done a' W' (fun j => by simp) (by rw [hdl]; exact hL.1) h2
    rwa [hdl] at h3) _ _ (fun _ => none) a w.drew ⟨rfl, rfl, rfl, Nat.le_refl _, fun _ _ => rfl⟩ (fun g o hg => by cases hg) H
  rw [htl, hbl, show m + (n - m) + (l.toArray.size - n) = l.toArray.size by omega] at this
  exact this

section
variable {P : Program} {ops : Array Oper} {Q : Exit → Act → World → Prop}
abbrev lendOp (o : Oper) (p : Nat) : Oper := { o with after := o.after.push ⟨p, .data⟩ }
theorem lend_get {t p : Nat} {ot : Oper} (ht : ops[t]? = some ot) (i : Nat) : (ops.setIfInBounds t (lendOp ot p))[i]? = if i = t then some (lendOp ot p) else ops[i]? := by
  rw [Array.getElem?_setIfInBounds]
  have := (Array.getElem?_eq_some_iff.1 ht).1
  by_cases h : t = i
  · subst h; simp [this]
  · rw [if_neg h, if_neg (Ne.symm h)]
theorem lend_yielded {t p : Nat} {ot : Oper} (ht : ops[t]? = some ot) (tmps : Array Value) : yielded (ops.setIfInBounds t (lendOp ot p)) tmps = yielded ops tmps := funext fun j => by
  unfold yielded
  rw [lend_get ht]
  by_cases h : j = t
  · subst h; rw [if_pos rfl, ht]; rfl
  · rw [if_neg h]
theorem lend_wpOp {t p i : Nat} {ot : Oper} (ht : ops[t]? = some ot) {K : Act → World → Prop} {a : Act} {w : World} (h : wpOp P (ops.setIfInBounds t (lendOp ot p)) Q i K a w) : wpOp P ops Q i K a w := by
  unfold wpOp at h ⊢
  rw [lend_get ht] at h
  by_cases e : i = t
  · subst e
    rw [if_pos rfl] at h
    rw [ht]
    dsimp only at h ⊢
    rw [lend_yielded ht] at h
    exact h
  · rw [if_neg e] at h
    revert h
    cases ops[i]? with
    | none => exact id
    | some o => dsimp only; rw [lend_yielded ht]; exact id

theorem lend_ready {t p : Nat} {ot : Oper} (ht : ops[t]? = some ot) {done : Array Bool} {i : Nat} : i ∈ Region.ready .any (ops.setIfInBounds t (lendOp ot p)) done ↔ i ∈ Region.ready .any ops done ∧ (i = t → done.getD p false = true) := by
  rw [mem_ready, mem_ready, lend_get ht]
  by_cases e : i = t
  · subst e
    rw [if_pos rfl, ht]
    constructor
    · rintro ⟨h1, o, ho, h2⟩
      obtain rfl := Option.some.inj ho
      exact ⟨⟨h1, ot, rfl, fun e he hb => h2 e (Array.mem_push.2 (.inl he)) hb⟩, fun _ => h2 ⟨p, .data⟩ (Array.mem_push.2 (.inr rfl)) rfl⟩
    · rintro ⟨⟨h1, o, ho, h2⟩, h3⟩
      obtain rfl := Option.some.inj ho
      refine ⟨h1, _, rfl, fun e he hb => ?_⟩
      rcases Array.mem_push.1 he with he | rfl
      · exact h2 e he hb
      · exact h3 rfl
  · rw [if_neg e]
    exact ⟨fun h => ⟨h, fun x => absurd x e⟩, fun h => h.1⟩

theorem lend {t p : Nat} {ot op : Oper} (ht : ops[t]? = some ot) (hp : ops[p]? = some op) (hpt : p ≠ t) (hsel : Region.noSelect ops = true)
    (hpure : ∀ (K : Act → World → Prop) a w, wpOp P ops Q p K a w → ∃ v, Yields P ops op v a ∧ K (a.put op.dst v) w) (hQ : ∀ v c a w, Q (.panic c) (a.put op.dst v) w → Q (.panic c) a w)
    (hfree : ∀ j oj, ops[j]? = some oj → j ≠ p → (∀ e ∈ oj.after, Region.binds .any e = true → e.on ≠ p) → (∀ e ∈ op.after, Region.binds .any e = true → e.on ≠ j) → op.apart ops oj = true)
    (hdeps : ∀ e ∈ op.after, Region.binds .any e = true → ∃ e' ∈ ot.after, Region.binds .any e' = true ∧ e'.on = e.on) :
    ∀ (k : Nat) (done : Array Bool) (a : Act) (w : World), done.size = ops.size → wpAny P .any (ops.setIfInBounds t (lendOp ot p)) Q k done a w → wpAny P .any ops Q k done a w := by
  have key : ∀ done : Array Bool, done.size = ops.size → t ∈ Region.ready .any ops done → done.getD p false = true ∨ p ∈ Region.ready .any ops done := fun done hsz h => by
    obtain ⟨_, o, ho, hall⟩ := mem_ready.1 h
    obtain rfl := Option.some.inj (ht.symm.trans ho)
    cases hd : done.getD p false with
    | true => exact .inl rfl
    | false =>
      refine .inr (mem_ready.2 ⟨getD_in (by rw [hsz]; exact (Array.getElem?_eq_some_iff.1 hp).1) hd, op, hp, fun e he hb => ?_⟩)
      obtain ⟨e', he', hb', hon⟩ := hdeps e he hb
      rw [← hon]
      exact hall e' he' hb'
  intro k
  induction k with
  | zero =>
    intro done a w hsz h
    refine ⟨List.eq_nil_iff_forall_not_mem.2 fun i hi => ?_, h.2⟩
    have hnil := h.1
    by_cases e : i = t
    · subst e
      rcases key done hsz hi with h1 | h1
      · have := lend_ready (p := p) ht |>.2 ⟨hi, fun _ => h1⟩
        rw [hnil] at this; cases this
      · have := lend_ready (p := p) ht |>.2 ⟨h1, fun x => absurd x hpt⟩
        rw [hnil] at this; cases this
    · have := lend_ready (p := p) ht |>.2 ⟨hi, fun x => absurd x e⟩
      rw [hnil] at this; cases this
  | succ k ih =>
    intro done a w hsz h
    by_cases hpr : p ∈ Region.ready .any ops done
    · have h1 := lend_wpOp ht (h.2 p (lend_ready ht |>.2 ⟨hpr, fun x => absurd x hpt⟩))
      obtain ⟨v, hy, hK⟩ := hpure _ _ _ h1
      exact wpAny_first hp (Region.noSelect_spec hsel) (hQ v) k done a w (fun j oj hj hne hun hno => hfree j oj hj hne hno fun e he hb heq => by
        obtain ⟨_, o, ho, hall⟩ := mem_ready.1 hpr
        obtain rfl := Option.some.inj (hp.symm.trans ho)
        have h2 := hall e he hb
        rw [heq, getD_both hun] at h2
        cases h2) hpr hy (ih _ _ _ (by simp [hsz]) hK)
    · have hsub : ∀ i, i ∈ Region.ready .any ops done → i ∈ Region.ready .any (ops.setIfInBounds t (lendOp ot p)) done := fun i hi => lend_ready ht |>.2 ⟨hi, fun e => by
        subst e
        rcases key done hsz hi with h1 | h1
        · exact h1
        · exact absurd h1 hpr⟩
      refine ⟨fun h0 => h.1 (List.eq_nil_iff_forall_not_mem.2 fun i hi => ?_), fun i hi => wpOp_mono (fun a' w' h' => ih _ _ _ (by simp [hsz]) h') (lend_wpOp ht (h.2 i (hsub i hi)))⟩
      have := (lend_ready ht |>.1 hi).1
      rw [h0] at this; cases this
theorem no_event {es : Array Event} (h : es = #[]) : ¬ noRoomEvent ∈ es := by subst h; simp
theorem extract_pure {p : Nat} {o : Oper} {x : Operand} {ix : Nat} (ho : ops[p]? = some o) (hop : o.op = .extract x ix) (hg : o.guard = none) (K : Act → World → Prop) (a : Act) (w : World) (h : wpOp P ops Q p K a w) : ∃ v, Yields P ops o v a ∧ K (a.put o.dst v) w := by
  have hw : Region.wanted o (yielded ops a.tmps) = true := by unfold Region.wanted; rw [hg]
  unfold wpOp at h
  rw [ho] at h
  dsimp only at h
  rw [if_pos hw] at h
  unfold Oper.wp Oper.asks at h
  unfold Yields
  simp only [execOp, hop] at h ⊢
  unfold Instr.extract at h ⊢
  have fin : ∀ v0, a.eval x = v0 → (∃ vs v, v0 = .tuple vs ∧ vs[ix]? = some v) ∨ (∀ vs v, v0 = .tuple vs → vs[ix]? ≠ some v) := fun v0 _ => by
    by_cases hh : ∃ vs v, v0 = .tuple vs ∧ vs[ix]? = some v
    · exact .inl hh
    · exact .inr fun vs v e1 e2 => hh ⟨vs, v, e1, e2⟩
  rcases fin _ rfl with ⟨vs, v, e1, e2⟩ | hno
  · simp only [e1, e2] at h ⊢
    refine ⟨v, .inl ⟨hw, fun _ => rfl⟩, ?_⟩
    rcases h with h | h
    · exact h
    · exact absurd h.1.1 (no_event rfl)
  · exfalso
    rcases h with h | h
    · revert h
      split
      · split
        · rename_i _ vs e _ v e2; exact absurd e2 (hno _ _ e)
        · exact id
      · exact id
    · have := h.1.1
      revert this
      split
      · split
        · rename_i _ vs e _ v e2; exact absurd e2 (hno _ _ e)
        · exact no_event rfl
      · exact no_event rfl
end

def lendFree (ops : Array Oper) (p : Nat) : Bool := match ops[p]? with
  | none => false
  | some op => (List.range ops.size).all fun j => match ops[j]? with
    | none => true
    | some oj => j == p || (oj.after.any fun e => Region.binds .any e && e.on == p) || (op.after.any fun e => Region.binds .any e && e.on == j) || op.apart ops oj
theorem lendFree_spec {ops : Array Oper} {p j : Nat} {op oj : Oper} (hp : ops[p]? = some op) (h : lendFree ops p = true) (hj : ops[j]? = some oj) (hne : j ≠ p) (h1 : ∀ e ∈ oj.after, Region.binds .any e = true → e.on ≠ p) (h2 : ∀ e ∈ op.after, Region.binds .any e = true → e.on ≠ j) : op.apart ops oj = true := by
  unfold lendFree at h
  rw [hp] at h
  have h3 := List.all_eq_true.1 h j (List.mem_range.2 (Array.getElem?_eq_some_iff.1 hj).1)
  rw [hj] at h3
  simp only [Bool.or_eq_true, beq_iff_eq, hne, false_or] at h3
  rcases h3 with (h3 | h3) | h3
  · obtain ⟨e, he, hb⟩ := Array.any_eq_true'.1 h3
    simp only [Bool.and_eq_true, beq_iff_eq] at hb
    exact absurd hb.2 (h1 e he hb.1)
  · obtain ⟨e, he, hb⟩ := Array.any_eq_true'.1 h3
    simp only [Bool.and_eq_true, beq_iff_eq] at hb
    exact absurd hb.2 (h2 e he hb.1)
  · exact h3
/-- region_bl, where the pure operation number p (an extract) may come up behind the store number t. -/
theorem region_bl_lend {P : Program} {id : Nat} {Q : Exit → Act → World → Prop} {a : Act} {w : World} {l : List Oper} (t p : Nat) {ot op : Oper} {x : Operand} {ix : Nat} (m n : Nat) (ob : Nat → Obj) (S : World → Prop) (hm : P.follows .mixedOrders = true)
    (ht : l.toArray[t]? = some ot) (hp : l.toArray[p]? = some op) (hop : op.op = .extract x ix) (hg : op.guard = none) (hpt : p ≠ t) (hsel : Region.noSelect l.toArray = true) (hQ : ∀ v c a w, Q (.panic c) (a.put op.dst v) w → Q (.panic c) a w)
    (hfree : lendFree l.toArray p = true) (hdeps : (op.after.all fun e => !Region.binds .any e || ot.after.any fun e' => Region.binds .any e' && e'.on == e.on) = true)
    (hB : Region.lexTailB .any (l.set t (lendOp ot p)).toArray n = true) (hmn : m ≤ n) (hS : S w) (hLay : Lays P (l.set t (lendOp ot p)).toArray m n ob)
    (h : ∀ W, S W → wpG P (l.set t (lendOp ot p)).toArray W (fun a' => wpB W ob (fun A a'' => ∀ w', Below W.heap.size W w' → okB A w' → wpList P (l.set t (lendOp ot p)).toArray Q ((l.set t (lendOp ot p)).drop n) a'' w') (((l.set t (lendOp ot p)).drop m).take (n - m)) m (fun _ => none) a') ((l.set t (lendOp ot p)).take m) a) :
    (Code.region id l.toArray true).wp P Q a w := by
  refine wp_region_any hm ?_
  have H := region_bl_any (Q := Q) (a := a) m n ob S hB hmn hS hLay h
  have e : (l.set t (lendOp ot p)).toArray = l.toArray.setIfInBounds t (lendOp ot p) := by simp
  have es : (l.set t (lendOp ot p)).toArray.size = l.toArray.size := by simp
  rw [es, e] at H
  refine lend ht hp hpt hsel (extract_pure hp hop hg) hQ (fun j oj hj hne hno hno2 => lendFree_spec hp hfree hj hne hno hno2) (fun e he hb => ?_) _ _ _ _ (by simp) H
  · have h1 := Array.all_eq_true'.1 hdeps e he
    simp only [hb, Bool.not_true, Bool.false_or] at h1
    obtain ⟨e', he', h2⟩ := Array.any_eq_true'.1 h1
    simp only [Bool.and_eq_true, beq_iff_eq] at h2
    exact ⟨e', he', h2.1, h2.2⟩
end Go.Proofs.YtkgphbjneaagoaaDoor

set_option linter.unusedVariables false
set_option maxRecDepth 100000
namespace Go.Proofs.YtkgphbjneaagoaaDoor
open Go.RowKit Go.Sort

theorem cell_on {W : World} {A : Addr} {v : Value} (h : W.cell? A = some v) : ∀ (d : Nat) (os : Array Obj), (grow (redrawn W d) os).cell? A = some v := fun d os => ((below_regrown W d os).cell (block_lt_of_cell h)).trans h
/-- What Earliest answers. -/
def earlV (up : NS) (sp : List Sn) (first n long : Int) (of : NS) : Option Int → Value
  | some t => .tuple #[.int .i64 t, nsV (firstS (durD up sp (endsL first sp) t (t + long) &&& of) n), .int .i64 0]
  | none => .tuple #[.int .i64 0, nsV emptyS, .int .i64 9]
theorem okE_no {up : NS} {sp : List Sn} {E : List Int} {n long lo : Int} {of : NS} {t : Int} (h : t < lo ∨ 2199023255552 - long < t) : okE up sp E n long lo of t = false := by
  unfold okE
  rcases h with h | h
  · rw [decide_eq_false (show ¬ lo ≤ t by omega)]; rfl
  · rw [decide_eq_false (show ¬ t ≤ 2199023255552 - long by omega)]; simp
theorem okE_in {up : NS} {sp : List Sn} {E : List Int} {n long lo : Int} {of : NS} {t : Int} (h0 : 0 ≤ n) (h1 : lo ≤ t) (h2 : t ≤ 2199023255552 - long) : okE up sp E n long lo of t = firstOk (durD up sp E t (t + long) &&& of) n := by
  unfold okE firstOk
  rw [decide_eq_true h1, decide_eq_true h2, decide_eq_true h0]
  rfl
theorem find_at {l : List Int} {f : Int → Bool} {k : Nat} {t : Int} (h : l[k]? = some t) (h1 : ∀ x ∈ l.take k, f x = false) (h2 : f t = true) : l.find? f = some t := by
  obtain ⟨h3, h4⟩ := List.getElem?_eq_some_iff.1 h
  rw [List.find?_eq_some_iff_append]
  refine ⟨h2, l.take k, l.drop (k + 1), ?_, fun a ha => by rw [h1 a ha]; rfl⟩
  have h5 : l = l.take k ++ l.drop k := (List.take_append_drop _ _).symm
  rw [List.drop_eq_getElem_cons h3, h4] at h5
  exact h5
theorem rfirst_b (s : NS) (k : Int) (b : Bool) (w : World) (hb : firstOk s k = b) : Calls Tryd.prog 62 #[nsV s, .int .i64 k] w fun e w' => e = .returned (.tuple #[nsV (firstS s k), .bool b]) ∧ Below w.heap.size w w' := by
  subst hb
  exact rfirst_c s k w
set_option maxHeartbeats 64000000 in
theorem dearl_c (p : Nat) (up : NS) (first : Int) (A : Option Addr) (n c : Nat) (sp : List Sn) (n0 long lo : Int) (of : NS) (r : Option Int) (w : World) (hD : DpR w p up first A n c sp) (h0 : 0 ≤ n0) (h1 : n0 ≤ 256) (h2 : 1 ≤ long) (h3 : long ≤ 1099511627776) (h4 : first ≤ lo) (h5 : lo ≤ 1099511627776) (hr : (lo :: endsL first sp).find? (okE up sp (endsL first sp) n0 long lo of) = r) :
    Calls Tryd.prog 46 #[.pointer (some ⟨p, 0, none⟩), .int .i64 n0, .int .i64 long, .int .i64 lo, nsV of] w fun e w' => e = .returned (earlV up sp first n0 long of r) ∧ Below w.heap.size w w' := by
  have HRR := Lib.hid hr
  obtain ⟨E, hE⟩ : ∃ E, E = endsL first sp := ⟨_, rfl⟩
  have HEc := Lib.hid (fun (W : World) (h : DpR W p up first A n c sp) => dends_c p up first A n c sp W h)
  have HEl := Lib.hid (show E.length ≤ 4001 by
    rw [hE]
    have h4 := (ends_props first sp).2.2
    have h5 := hD.len
    have h6 := hD.rd.1
    omega)
  have HDc := Lib.hid (fun (W : World) (h : DpR W p up first A n c sp) (t : Int) (a : first ≤ t) (b : t < t + long) (d : t + long ≤ 2199023255552) => dduring_c p up first A n c sp t (t + long) W h a b d)
  have HEE := Lib.hid hE
  rw [← hE] at HEc HRR HDc
  obtain ⟨LL, hLL⟩ : ∃ LL, LL = lo :: E := ⟨_, rfl⟩
  have HLL := Lib.hid (show [lo] ++ E = LL from hLL.symm)
  have HLl := Lib.hid (show LL.length = 1 + E.length by rw [hLL, List.length_cons]; omega)
  rw [← hLL] at HRR
  have HLH := Lib.hid (show 0 ≤ n0 ∧ n0 ≤ 256 ∧ 1 ≤ long ∧ long ≤ 1099511627776 ∧ first ≤ lo ∧ lo ≤ 1099511627776 from ⟨h0, h1, h2, h3, h4, h5⟩)
  have hLI : (LL.length : Int) ≤ 4002 := by have := HEl.out; have := HLl.out; omega
  clear hE hLL hr
  have HP := Lib.hid hD.blk
  have HR := Lib.hid hD.rd
  have HDD := Lib.hid hD
  have hnI : (n : Int) ≤ 2000 := by have := hD.len; omega
  have hf0 := hD.lo.1
  have hf1 := hD.lo.2
  clear hD
  go_enter Tryd.func46, Tryd.ntmps46
  have HS0 := Lib.hid (Ms.start (o := Own.blk p 80 (dpA up first A n c)) HP.out)
  go_wp2_with (first
    | (have hq := HS0; clear hq; (with_reducible refine atBox ?_); refine wpList_alloc_b rfl (some 9) rfl 24 ((nsA of)) (by kernel_rfl) ?_; intro g1 W1 hb hB hg; have HS1 := Lib.hid (HS0.out.new hb hB hg); clear hb hB hg HS0)
    | (have hq := HS1; clear hq; (with_reducible refine atAlloc ?_); refine wpList_alloc_b rfl (some 11) rfl 24 (#[.int .u64 0, .int .u64 0, .int .u64 0, .int .u64 0]) (by kernel_rfl) ?_; intro g2 W2 hb hB hg; have HS2 := Lib.hid (HS1.out.new hb hB hg); clear hb hB hg HS1; obtain ⟨r0a, r0b, r0c⟩ := HS2.out.rules 0 rfl)
    | (have hq := HS2; clear hq; (with_reducible refine atBuild ?_); refine wpList_build_b rfl (some 47) rfl 3 1 (#[.int .i64 lo]) (by kernel_rfl) ?_; intro g3 W3 hb hB hg; have HS3 := Lib.hid (HS2.out.newRow hb hB hg (n := 1) (size := 1) rfl (by decide)); clear hb hB hg HS2; clear r0a r0b r0c))
  refine (HEc.out _ (HDD.out.below (HS3.out.still HP.out))).mono ?_
  rintro e W4 ⟨AE, cE, rfl, hM⟩
  have HS4 := Lib.hid (HS3.out.made hM)
  clear hM HS3
  go_wp2_with (have hq := HS4; clear hq; refine append_rd HS4.out 3 rfl _ _ 103 3 1 8 inC (.int .i64 0) rfl Tryd.underlying103 (by kernel_rfl) rfl (by decide) (some ⟨g3, 0, none⟩) 1 [lo] 1 rfl AE E.length cE E LL LL.length HLL.out rfl rfl rfl rfl (HS4.out.rdS1 4 rfl rfl) (fun _ => rfl) (fun _ => rfl) (by have := HEl.out; omega) (by have := HEl.out; simp only [maxLen]; omega) ?_; intro A5 c5 W5 hM; have HS5 := Lib.hid hM; clear hM HS4)
  clear h0 h1 h2 h3 h4 h5
  have HF := Lib.hid (show ∀ x ∈ LL.take 0, okE up sp E n0 long lo of x = false from fun x hx => by simp at hx)
  go_loopw [14] (fun i wr => ∃ kk : Nat, kk ≤ LL.length ∧ i = .int .i64 (kk : Nat) ∧ Hid (∀ x ∈ LL.take kk, okE up sp E n0 long lo of x = false) ∧ Hid (Ms w (Own.blk p 80 (dpA up first A n c)).bl [(.blk p 80 (dpA up first A n c)), (.blk g1 24 (nsA of)), (.blk g2 24 #[.int .u64 0, .int .u64 0, .int .u64 0, .int .u64 0]), rowI A5 c5 LL] wr)) (fun i _ => LL.length - (intOf i).toNat)
  case atStart => exact ⟨0, by omega, rfl, HF, Lib.hid (Ms.cut (l := [(.blk p 80 (dpA up first A n c)), (.blk g1 24 (nsA of)), (.blk g2 24 #[.int .u64 0, .int .u64 0, .int .u64 0, .int .u64 0]), rowI A5 c5 LL]) (k := [rowI AE cE E]) HS5.out)⟩
  case round =>
    obtain ⟨k, hkn, rfl, HNO, HS6⟩ := hrel
    by_cases hlt : k < LL.length
    · have hltI : (k : Int) < (LL.length : Int) := by omega
      have hk0I : (0 : Int) ≤ (k : Int) := by omega
      obtain ⟨t, ht⟩ : ∃ t, LL[k]? = some t := ⟨_, List.getElem?_eq_getElem hlt⟩
      have HX := Lib.hid ht
      clear ht
      obtain ⟨ed, hEe⟩ := HS6.out.adI 3 rfl (by omega)
      subst hEe
      have e0 := HS6.out.cellI 3 rfl HX.out
      by_cases c1 : t < lo
      · have HN := Lib.hid (show ∀ x ∈ LL.take (k + 1), okE up sp E n0 long lo of x = false from fun x hx => by
          rw [take_one HX.out] at hx
          rcases List.mem_append.1 hx with h | h
          · exact HNO.out x h
          · simp at h; subst h; exact okE_no (.inl c1))
        go_wp2_with fail
        exact ⟨⟨k + 1, by omega, by go_num, HN, Lib.hid (Ms.cut (l := [(.blk p 80 (dpA up first A n c)), (.blk g1 24 (nsA of)), (.blk g2 24 #[.int .u64 0, .int .u64 0, .int .u64 0, .int .u64 0]), rowI (some ed) c5 LL]) (k := []) HS6.out)⟩, by simp [intOf]; omega⟩
      · have c1n : lo ≤ t := by omega
        have hw1 : -9223372036854775808 ≤ 2199023255552 - long := by have := HLH.out; omega
        have hw2 : 2199023255552 - long ≤ 9223372036854775807 := by have := HLH.out; omega
        by_cases c2 : 2199023255552 - long < t
        · have HN := Lib.hid (show ∀ x ∈ LL.take (k + 1), okE up sp E n0 long lo of x = false from fun x hx => by
            rw [take_one HX.out] at hx
            rcases List.mem_append.1 hx with h | h
            · exact HNO.out x h
            · simp at h; subst h; exact okE_no (.inr c2))
          go_wp2_with fail
          exact ⟨⟨k + 1, by omega, by go_num, HN, Lib.hid (Ms.cut (l := [(.blk p 80 (dpA up first A n c)), (.blk g1 24 (nsA of)), (.blk g2 24 #[.int .u64 0, .int .u64 0, .int .u64 0, .int .u64 0]), rowI (some ed) c5 LL]) (k := []) HS6.out)⟩, by simp [intOf]; omega⟩
        · have c2n : t ≤ 2199023255552 - long := by omega
          have HT := Lib.hid (show first ≤ t ∧ t < t + long ∧ t + long ≤ 2199023255552 by have := HLH.out; omega)
          have hw3 : -9223372036854775808 ≤ t + long := by have := HLH.out; have := HDD.out.lo; omega
          have hw4 : t + long ≤ 9223372036854775807 := by have := HLH.out; omega
          have hwr : IntKind.i64.wrap (t + long) = t + long := wrap_small (by have := HLH.out; have := HDD.out.lo; omega) hw4
          have HOK := Lib.hid (okE_in (up := up) (sp := sp) (E := E) (n := n0) (long := long) (lo := lo) (of := of) (t := t) HLH.out.1 c1n c2n)
          obtain ⟨D, hDu⟩ : ∃ D, D = durD up sp E t (t + long) := ⟨_, rfl⟩
          have HDu := Lib.hid hDu
          have HDC := Lib.hid (fun (W : World) (h : DpR W p up first A n c sp) => HDc.out W h t HT.out.1 HT.out.2.1 HT.out.2.2)
          rw [← hDu] at HOK HDC
          clear hDu
          go_wp2_with fail
          clear e0
          cases hok : firstOk (D &&& of) n0 with
          | false =>
            have HK := Lib.hid hok
            clear hok
            have HOF := Lib.hid (show okE up sp E n0 long lo of t = false by rw [HOK.out, HK.out])
            have HN := Lib.hid (show ∀ x ∈ LL.take (k + 1), okE up sp E n0 long lo of x = false from fun x hx => by
              rw [take_one HX.out] at hx
              rcases List.mem_append.1 hx with h | h
              · exact HNO.out x h
              · simp at h; subst h; exact HOF.out)
            go_wp2_with fail
            refine region_bl_lend 16 14 15 16 (fun i => Obj.cells #[.int .u64 0, .int .u64 0, .int .u64 0, .int .u64 0] 24) (Ms w (Own.blk p 80 (dpA up first A n c)).bl _) (by kernel_rfl) rfl rfl rfl rfl (by decide) (by kernel_rfl) (fun _ _ _ _ h => h) (by kernel_rfl) (by kernel_rfl) (by kernel_rfl) (by decide) HS6.out (fun i h1 h2 o ho a w => ?_) ?_
            · obtain rfl : i = 15 := by omega
              simp only [List.set, List.getElem?_toArray, List.getElem?_cons_succ, List.getElem?_cons_zero, Option.some.injEq] at ho
              subst ho
              exact ⟨rfl, by kernel_rfl⟩
            clear HS6
            intro W7 hS
            have qe := fun (d : Nat) (os : Array Obj) => cell_on (hS.cellI 3 rfl HX.out) d os
            have HC0 := Lib.hid (fun (d : Nat) (os : Array Obj) => HDC.out _ (HDD.out.below ((hS.after (below_regrown W7 d os)).still HP.out)))
            have HS7 := Lib.hid hS
            clear hS
            simp only [List.set, List.take_succ_cons, List.take_zero, List.drop_succ_cons, List.drop_zero, Nat.reduceSub]
            repeat (first | (refine wpG_step (fun K hK => ?_); go_simp; first | (refine hK _ ?_; clear hK K) | (apply Exists.intro; refine ⟨fun _ => ?_, hK _ ?_⟩; (first | with_reducible exact calls_on (HC0.out _ _)); clear hK K)))
            refine wpG_nil ?_
            intro g8 hg8 W9 hb hA
            have HS9 := Lib.hid (HS7.out.laid1 hb hg8 hA)
            clear hb hA HS7 hg8 qe HC0
            refine wpList_store_at rfl 24 _ _ rfl (HS9.out.at_ 4 rfl) (nsV D) rfl rfl (by kernel_rfl) (Nat.le_of_ble_eq_true rfl) (by kernel_rfl) ?_
            intro W10 hB hP
            have HS10 := Lib.hid (HS9.out.put 4 rfl (new := (nsA D)) hB hP)
            clear hB hP HS9
            go_wp2_with (first
              | (have hq := HS10; clear hq; (with_reducible refine atLoad ?_); refine wpList_load_at rfl 24 _ rfl (HS10.out.at_ 4 rfl) 4 (nsV D) rfl _ Tryd.underlying24 rfl (by kernel_rfl) (Nat.le_of_ble_eq_true rfl) rfl ?_)
              | (have hq := HS10; clear hq; (with_reducible refine atLoad ?_); refine wpList_load_at rfl 24 _ rfl (HS10.out.at_ 1 rfl) 4 (nsV of) rfl _ Tryd.underlying24 rfl (by kernel_rfl) (Nat.le_of_ble_eq_true rfl) rfl ?_))
            refine (rand_c D of _).mono ?_
            rintro e W11 ⟨rfl, hb⟩
            have HS11 := Lib.hid (HS10.out.after hb)
            clear hb HS10
            go_wp2_with fail
            refine (rfirst_b (D &&& of) n0 false _ HK.out).mono ?_
            rintro e W12 ⟨rfl, hb⟩
            have HS12 := Lib.hid (HS11.out.after hb)
            clear hb HS11
            go_wp2_with (first
              | (have hq := HS12; clear hq; (with_reducible refine atAlloc ?_); refine wpList_alloc_b rfl (some 17) rfl 24 (#[.int .u64 0, .int .u64 0, .int .u64 0, .int .u64 0]) (by kernel_rfl) ?_; intro g13 W13 hb hB hg; have HS13 := Lib.hid (HS12.out.new hb hB hg); clear hb hB hg HS12)
              | (have hq := HS13; clear hq; (with_reducible refine atStore ?_); refine wpList_store_at rfl 24 _ _ rfl (HS13.out.at_ 5 rfl) (nsV (firstS (D &&& of) n0)) rfl rfl (by kernel_rfl) (Nat.le_of_ble_eq_true rfl) (by kernel_rfl) ?_; intro W14 hB hP; have HS14 := Lib.hid (HS13.out.put 5 rfl (new := (nsA (firstS (D &&& of) n0))) hB hP); clear hB hP HS13))
            exact ⟨⟨k + 1, by omega, by go_num, HN, Lib.hid (Ms.cut (l := [(.blk p 80 (dpA up first A n c)), (.blk g1 24 (nsA of)), (.blk g2 24 #[.int .u64 0, .int .u64 0, .int .u64 0, .int .u64 0]), rowI (some ed) c5 LL]) (k := [(.blk g8 24 (nsA D)), (.blk g13 24 (nsA (firstS (D &&& of) n0)))]) HS14.out)⟩, by simp [intOf]; omega⟩
          | true =>
            have HK := Lib.hid hok
            clear hok
            have HOF := Lib.hid (show okE up sp E n0 long lo of t = true by rw [HOK.out, HK.out])
            have hrt : r = some t := by
              rw [← HRR.out]
              exact find_at HX.out HNO.out HOF.out
            subst hrt
            have HEV := Lib.hid (show earlV up sp first n0 long of (some t) = .tuple #[.int .i64 t, nsV (firstS (D &&& of) n0), .int .i64 0] by unfold earlV; rw [HDu.out, HEE.out])
            go_wp2_with fail
            refine region_bl_lend 16 14 15 16 (fun i => Obj.cells #[.int .u64 0, .int .u64 0, .int .u64 0, .int .u64 0] 24) (Ms w (Own.blk p 80 (dpA up first A n c)).bl _) (by kernel_rfl) rfl rfl rfl rfl (by decide) (by kernel_rfl) (fun _ _ _ _ h => h) (by kernel_rfl) (by kernel_rfl) (by kernel_rfl) (by decide) HS6.out (fun i h1 h2 o ho a w => ?_) ?_
            · obtain rfl : i = 15 := by omega
              simp only [List.set, List.getElem?_toArray, List.getElem?_cons_succ, List.getElem?_cons_zero, Option.some.injEq] at ho
              subst ho
              exact ⟨rfl, by kernel_rfl⟩
            clear HS6
            intro W7 hS
            have qe := fun (d : Nat) (os : Array Obj) => cell_on (hS.cellI 3 rfl HX.out) d os
            have HC0 := Lib.hid (fun (d : Nat) (os : Array Obj) => HDC.out _ (HDD.out.below ((hS.after (below_regrown W7 d os)).still HP.out)))
            have HS7 := Lib.hid hS
            clear hS
            simp only [List.set, List.take_succ_cons, List.take_zero, List.drop_succ_cons, List.drop_zero, Nat.reduceSub]
            repeat (first | (refine wpG_step (fun K hK => ?_); go_simp; first | (refine hK _ ?_; clear hK K) | (apply Exists.intro; refine ⟨fun _ => ?_, hK _ ?_⟩; (first | with_reducible exact calls_on (HC0.out _ _)); clear hK K)))
            refine wpG_nil ?_
            intro g8 hg8 W9 hb hA
            have HS9 := Lib.hid (HS7.out.laid1 hb hg8 hA)
            clear hb hA HS7 hg8 qe HC0
            refine wpList_store_at rfl 24 _ _ rfl (HS9.out.at_ 4 rfl) (nsV D) rfl rfl (by kernel_rfl) (Nat.le_of_ble_eq_true rfl) (by kernel_rfl) ?_
            intro W10 hB hP
            have HS10 := Lib.hid (HS9.out.put 4 rfl (new := (nsA D)) hB hP)
            clear hB hP HS9
            go_wp2_with (first
              | (have hq := HS10; clear hq; (with_reducible refine atLoad ?_); refine wpList_load_at rfl 24 _ rfl (HS10.out.at_ 4 rfl) 4 (nsV D) rfl _ Tryd.underlying24 rfl (by kernel_rfl) (Nat.le_of_ble_eq_true rfl) rfl ?_)
              | (have hq := HS10; clear hq; (with_reducible refine atLoad ?_); refine wpList_load_at rfl 24 _ rfl (HS10.out.at_ 1 rfl) 4 (nsV of) rfl _ Tryd.underlying24 rfl (by kernel_rfl) (Nat.le_of_ble_eq_true rfl) rfl ?_))
            refine (rand_c D of _).mono ?_
            rintro e W11 ⟨rfl, hb⟩
            have HS11 := Lib.hid (HS10.out.after hb)
            clear hb HS10
            go_wp2_with fail
            refine (rfirst_b (D &&& of) n0 true _ HK.out).mono ?_
            rintro e W12 ⟨rfl, hb⟩
            have HS12 := Lib.hid (HS11.out.after hb)
            clear hb HS11
            go_wp2_with (first
              | (have hq := HS12; clear hq; (with_reducible refine atAlloc ?_); refine wpList_alloc_b rfl (some 17) rfl 24 (#[.int .u64 0, .int .u64 0, .int .u64 0, .int .u64 0]) (by kernel_rfl) ?_; intro g13 W13 hb hB hg; have HS13 := Lib.hid (HS12.out.new hb hB hg); clear hb hB hg HS12)
              | (have hq := HS13; clear hq; (with_reducible refine atStore ?_); refine wpList_store_at rfl 24 _ _ rfl (HS13.out.at_ 5 rfl) (nsV (firstS (D &&& of) n0)) rfl rfl (by kernel_rfl) (Nat.le_of_ble_eq_true rfl) (by kernel_rfl) ?_; intro W14 hB hP; have HS14 := Lib.hid (HS13.out.put 5 rfl (new := (nsA (firstS (D &&& of) n0))) hB hP); clear hB hP HS13))
            refine region_bt 6 (Ms w (Own.blk p 80 (dpA up first A n c)).bl _) (by kernel_rfl) (by kernel_rfl) HS14.out ?_
            clear HS14
            intro W15 hS
            have qe := fun (d : Nat) (os : Array Obj) => cell_on (hS.cellI 3 rfl HX.out) d os
            have HS15 := Lib.hid hS
            clear hS
            simp only [List.take_succ_cons, List.take_zero, List.drop_succ_cons, List.drop_zero]
            repeat (first | go_big_quiet_skip | (refine wpQuiet_load_b (by kernel_rfl) 24 _ rfl (HS15.out.at_ 5 rfl) 4 (nsV (firstS (D &&& of) n0)) rfl _ Tryd.underlying24 rfl (by kernel_rfl) (Nat.le_of_ble_eq_true rfl) rfl ?_) | go_big_quiet_step (fail) | quiet_step (fail))
            refine wpQuiet_nil ?_
            intro W16 hb
            have HS16 := Lib.hid (HS15.out.after hb)
            clear hb HS15 qe
            refine wpList_store_at rfl 24 _ _ rfl (HS16.out.at_ 2 rfl) (nsV (firstS (D &&& of) n0)) rfl rfl (by kernel_rfl) (Nat.le_of_ble_eq_true rfl) (by kernel_rfl) ?_
            intro W17 hB hP
            have HS17 := Lib.hid (HS16.out.put 2 rfl (new := (nsA (firstS (D &&& of) n0))) hB hP)
            clear hB hP HS16
            go_wp2_with fail
            exact post_tmp_cell_tmp (x := .int .i64 0) (y := .int .i64 t) rfl rfl rfl rfl (HS17.out.at_ 2 rfl) Tryd.underlying24 rfl (by kernel_rfl) rfl ⟨by rw [HEV.out], HS17.out.still HP.out⟩
    · obtain rfl : k = LL.length := by omega
      have hrn : r = none := by
        rw [← HRR.out, List.find?_eq_none]
        intro x hx h
        have := HNO.out x (by rw [List.take_length]; exact hx)
        rw [this] at h
        cases h
      subst hrn
      have HEV := Lib.hid (show earlV up sp first n0 long of none = .tuple #[.int .i64 0, nsV emptyS, .int .i64 9] from rfl)
      go_wp2_with (have hq := HS6; clear hq; (with_reducible refine atStore ?_); refine wpList_store_at rfl 24 _ _ rfl (HS6.out.at_ 2 rfl) (.agg #[.int .u64 0, .int .u64 0, .int .u64 0, .int .u64 0]) rfl rfl (by kernel_rfl) (Nat.le_of_ble_eq_true rfl) (by kernel_rfl) ?_; intro W7 hB hP; have HS7 := Lib.hid (HS6.out.put 2 rfl (new := #[.int .u64 0, .int .u64 0, .int .u64 0, .int .u64 0]) hB hP); clear hB hP HS6)
      exact post_tmp_cell_tmp (x := .int .i64 9) (y := .int .i64 0) rfl rfl rfl rfl (HS7.out.at_ 2 rfl) Tryd.underlying24 rfl (by kernel_rfl) rfl ⟨by rw [HEV.out, show nsV emptyS = .agg #[.int .u64 0, .int .u64 0, .int .u64 0, .int .u64 0] by kernel_rfl], HS7.out.still HP.out⟩
end Go.Proofs.YtkgphbjneaagoaaDoor
