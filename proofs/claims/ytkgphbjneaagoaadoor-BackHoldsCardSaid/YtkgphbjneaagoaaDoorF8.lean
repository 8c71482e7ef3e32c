/- Prof: within, During. -/
import Derived.Test.YtkgphbjneaagoaaDoorF7
set_option linter.unusedVariables false
namespace Go.Proofs.YtkgphbjneaagoaaDoor
open Go.RowKit Go.Sort

theorem PfOk.cap {w : World} {g : Nat} {nodes : NS} {A : Option Addr} {c : Nat} {l : List (Sp NS)} {t0 : Int} (h : PfOk w g nodes A c l t0) : l.length ≤ c ∧ c ≤ 9223372036854775807 := by
  have h' : w.ownsRow 0 113 5 (slP A c l) l.length (spC l) := h.ok.2.1
  have hp := h.pos
  rcases h'.2 with ⟨_, e⟩ | ⟨g, cap, cur, e, _, hg, hcap, hmax, hcs, ht⟩
  · omega
  · injection e with _ _ e3
    simp only [maxLen] at hmax
    omega
set_option maxRecDepth 100000 in
set_option maxHeartbeats 4000000 in
theorem within_c (g : Nat) (nodes : NS) (ad : Addr) (c : Nat) (l : List (Sp NS)) (t0 lo hi : Int) (i j : Nat) (w : World) (h : PfOk w g nodes (some ad) c l t0) (h0 : t0 ≤ lo) (h1 : lo < hi) (h2 : hi ≤ 2199023255552) (hi_ : At emptyS l lo i) (hj : At emptyS l (hi - 1) j) :
    Calls Tryd.prog 66 #[.pointer (some ⟨g, 0, none⟩), .int .i64 lo, .int .i64 hi] w fun e w' => e = .returned (.slice (some (ad.add (i * 5))) (j + 1 - i) (c - i)) ∧ Below w.heap.size w w' := by
  have HH := Lib.hid h
  have hcap := h.cap
  have hlI : (l.length : Int) ≤ 1048576 := by have := h.len; omega
  have hij := hi_.mono h.prf.can hj (by omega)
  have hjl := hj.lt
  have HS := Lib.hid (show ∀ w0, PfOk w0 g nodes (some ad) c l t0 → Calls Tryd.prog 59 #[.pointer (some ⟨g, 0, none⟩), .int .i64 lo] w0 fun e w' => e = .returned (.int .i64 (i : Nat)) ∧ Below w0.heap.size w0 w' from fun w0 h0' => find_i g nodes (some ad) c l t0 lo i w0 h0' ⟨h0, by omega⟩ hi_)
  have HT := Lib.hid (show ∀ w0, PfOk w0 g nodes (some ad) c l t0 → Calls Tryd.prog 59 #[.pointer (some ⟨g, 0, none⟩), .int .i64 (hi - 1)] w0 fun e w' => e = .returned (.int .i64 (j : Nat)) ∧ Below w0.heap.size w0 w' from fun w0 h0' => find_i g nodes (some ad) c l t0 (hi - 1) j w0 h0' ⟨by omega, by omega⟩ hj)
  have hww : IntKind.i64.wrap (hi - 1) = hi - 1 := by rw [IntKind.wrap_i64]; have := h.low; omega
  have hjw : IntKind.i64.wrap ((j : Int) + 1) = (j : Int) + 1 := by rw [IntKind.wrap_i64]; omega
  have hijI : (i : Int) ≤ (j : Int) := by omega
  have hjlI : (j : Int) < (l.length : Int) := by omega
  have hlcI : (l.length : Int) ≤ (c : Int) := by omega
  have hcI : (c : Int) ≤ 9223372036854775807 := by omega
  clear h h0 h1 h2 hi_ hj hlI hcap
  go_enter Tryd.func66, Tryd.ntmps66
  go_wp2_with fail
  refine region_bt 13 (fun W => PfOk W g nodes (some ad) c l t0 ∧ Below w.heap.size w W) (by kernel_rfl) (by kernel_rfl) ⟨HH.out, Below.refl _ _⟩ ?_
  rintro W4 ⟨hS, hB⟩
  have q0 := cells_on hS.blk.cell hS.blk.lt
  have HF := Lib.hid (fun d os => HS.out _ (hS.after (below_regrown W4 d os)))
  have HG := Lib.hid (fun d os => HT.out _ (hS.after (below_regrown W4 d os)))
  have HB := Lib.hid hB
  clear hS hB
  simp only [List.take_succ_cons, List.take_zero, List.drop_succ_cons, List.drop_zero]
  repeat (first
    | go_big_quiet_step (first | with_reducible exact Calls.regrown_of (HF.out _ _) | with_reducible exact Calls.regrown_of (HG.out _ _)) | quiet_step (first | with_reducible exact Calls.regrown_of (HF.out _ _) | with_reducible exact Calls.regrown_of (HG.out _ _)))
  refine wpQuiet_nil ?_
  intro W5 hb
  have HB2 := Lib.hid (below_then HB.out HB.out.size hb)
  clear hb HB q0 HF HG
  go_wp2_with fail
  go_ret
  exact ⟨rfl, HB2.out⟩
abbrev z4P : Array Value := #[.int .u64 0, .int .u64 0, .int .u64 0, .int .u64 0]
abbrev z5P : Array Value := #[.int .i64 0, .int .u64 0, .int .u64 0, .int .u64 0, .int .u64 0]
theorem stepCells {w : World} {g : Nat} {nodes : NS} {ad : Addr} {c : Nat} {l : List (Sp NS)} {t0 : Int} (h : PfOk w g nodes (some ad) c l t0) {i k : Nat} (hk : i + k < l.length) : ∀ j v, (spL (stp emptyS l (i + k)))[j]? = some v → w.cell? (((ad.add (i * 5)).add (k * 5)).add j) = some v := fun j v hj => by
  have h1 := h.read.at_ hk j v hj
  have hp := h.addr ad rfl (by omega)
  obtain ⟨b, o, e⟩ : ∃ b o, ad = ⟨b, o, none⟩ := by cases ad; simp only at hp; subst hp; exact ⟨_, _, rfl⟩
  rw [← h1, e, add_at, add_at, add_at, add_at, add_at]
  congr 2
  omega
set_option maxRecDepth 100000 in
set_option maxHeartbeats 4000000 in
theorem during_no (g : Nat) (nodes : NS) (A : Option Addr) (c : Nat) (l : List (Sp NS)) (t0 lo hi : Int) (w : World) (h : PfOk w g nodes A c l t0) (hE : spanE t0 lo hi = 1) :
    Calls Tryd.prog 54 #[.pointer (some ⟨g, 0, none⟩), .int .i64 lo, .int .i64 hi] w fun e w' => e = .returned (.tuple #[nsV emptyS, .int .i64 1]) ∧ Below w.heap.size w w' := by
  have HH := Lib.hid h
  have HE := Lib.hid hE
  clear h hE
  have HQ := Lib.hid (show nsV emptyS = .agg #[.int .u64 0, .int .u64 0, .int .u64 0, .int .u64 0] by rfl)
  go_enter Tryd.func54, Tryd.ntmps54
  have HS0 := Lib.hid (Ms.nil w noB)
  go_wp2_with (refine wpList_alloc_b rfl (some 6) rfl 24 z4P (by kernel_rfl) ?_; intro g1 W0 hb hB hg; have HS1 := Lib.hid (HS0.out.new hb hB hg); clear hb hB hg HS0)
  refine (span_pc g nodes A c l t0 lo hi _ (HH.out.after HS1.out.below)).mono ?_
  rintro e W1 ⟨rfl, hb1⟩
  have HS2 := Lib.hid (HS1.out.after hb1)
  clear hb1 HS1
  rw [HE.out]
  go_wp2_with (refine wpList_store_at rfl 24 _ _ rfl (HS2.out.at_ 0 rfl) (.agg z4P) rfl rfl (by kernel_rfl) (Nat.le_of_ble_eq_true rfl) (by kernel_rfl) ?_; intro W6 hB hP; have HS6 := Lib.hid (HS2.out.put 0 rfl (new := z4P) hB hP); clear hB hP HS2)
  exact post_cell_tmp (x := .int .i64 1) rfl rfl rfl (HS6.out.at_ 0 rfl) Tryd.underlying24 rfl (by kernel_rfl) rfl ⟨by rw [HQ.out], HS6.out.below⟩
theorem spanE_zero {t0 lo hi : Int} (h : spanE t0 lo hi = 0) : t0 ≤ lo ∧ lo < hi ∧ hi ≤ 2199023255552 := by
  unfold spanE at h
  split at h
  · omega
  · omega
theorem spanE_cases (t0 lo hi : Int) : spanE t0 lo hi = 0 ∨ spanE t0 lo hi = 1 := by unfold spanE; split <;> simp
set_option maxRecDepth 100000 in
set_option maxHeartbeats 4000000 in
theorem during_yes (g : Nat) (nodes : NS) (A : Option Addr) (c : Nat) (l : List (Sp NS)) (t0 lo hi : Int) (w : World) (h : PfOk w g nodes A c l t0) (hE : spanE t0 lo hi = 0) :
    Calls Tryd.prog 54 #[.pointer (some ⟨g, 0, none⟩), .int .i64 lo, .int .i64 hi] w fun e w' => e = .returned (.tuple #[nsV (durS nodes l lo hi), .int .i64 0]) ∧ Below w.heap.size w w' := by
  have HH := Lib.hid h
  have HE := Lib.hid hE
  obtain ⟨h0, h1, h2⟩ := spanE_zero hE
  obtain ⟨i, hi_⟩ := At.ex (d := emptyS) (t := lo) h.prf h0
  obtain ⟨j, hj⟩ := At.ex (d := emptyS) (t := hi - 1) h.prf (by omega)
  obtain ⟨ad, hAe, -⟩ := h.read.2.2 h.pos
  subst hAe
  have HD := Lib.hid (durS_eq (nodes := nodes) h.prf h1 hi_ hj)
  have hij := hi_.mono h.prf.can hj (by omega)
  have hjl := hj.lt
  have HW := Lib.hid (fun w0 (h0' : PfOk w0 g nodes (some ad) c l t0) => within_c g nodes ad c l t0 lo hi i j w0 h0' h0 h1 h2 hi_ hj)
  obtain ⟨m, hm⟩ : ∃ m, m = j + 1 - i := ⟨_, rfl⟩
  rw [← hm] at HD HW
  have hlen := h.len
  have hmI : (m : Int) ≤ 1048576 := by omega
  have hil : ∀ k, k < m → i + k < l.length := fun k hk => by omega
  have HIL := Lib.hid hil
  clear h hE h0 h1 h2 hi_ hj hij hjl hm hlen hil
  go_enter Tryd.func54, Tryd.ntmps54
  have HS0 := Lib.hid (Ms.nil w noB)
  go_wp2_with (refine wpList_alloc_b rfl (some 6) rfl 24 z4P (by kernel_rfl) ?_; intro g1 W0 hb hB hg; have HS1 := Lib.hid (HS0.out.new hb hB hg); clear hb hB hg HS0)
  refine (span_pc g nodes (some ad) c l t0 lo hi _ (HH.out.after HS1.out.below)).mono ?_
  rintro e W1 ⟨rfl, hb1⟩
  have HS2 := Lib.hid (HS1.out.after hb1)
  have HB2 := Lib.hid ((HH.out.after HS2.out.below).blk)
  clear hb1 HS1
  rw [HE.out]
  go_wp2_with (first
    | (refine wpList_load_at rfl 24 _ rfl HB2.out 4 (nsV nodes) rfl _ Tryd.underlying24 rfl (by kernel_rfl) (Nat.le_of_ble_eq_true rfl) rfl ?_)
    | (refine wpList_alloc_b rfl (some 9) rfl 24 z4P (by kernel_rfl) ?_; intro g2 W3 hb hB hg; have HS3 := Lib.hid (HS2.out.new hb hB hg); clear hb hB hg HS2 HB2)
    | (refine wpList_store_at rfl 24 _ _ rfl (HS3.out.at_ 1 rfl) (nsV nodes) rfl rfl (by kernel_rfl) (Nat.le_of_ble_eq_true rfl) (by kernel_rfl) ?_; intro W6 hB hP; have HS6 := Lib.hid (HS3.out.put 1 rfl (new := nsA nodes) hB hP); clear hB hP HS3))
  refine (HW.out _ (HH.out.after HS6.out.below)).mono ?_
  rintro e W7 ⟨rfl, hb1⟩
  have HS7 := Lib.hid (HS6.out.after hb1)
  clear hb1 HS6
  go_wp2_with fail
  go_loopw [29] (fun k wr => ∃ kk : Nat, kk ≤ m ∧ k = .int .i64 (kk : Nat) ∧ Hid (Ms w noB [.blk g1 24 z4P, .blk g2 24 (nsA (andP nodes l i kk))] wr)) (fun k _ => m - (intOf k).toNat)
  case atStart => exact ⟨0, by omega, rfl, HS7⟩
  case round =>
    obtain ⟨k, hkm, rfl, HS8⟩ := hrel
    by_cases hlt : k < m
    · have hltI : (k : Int) < (m : Int) := by omega
      have HC := Lib.hid (stepCells (HH.out.after HS8.out.below) (HIL.out k hlt))
      obtain ⟨s, hs⟩ : ∃ s, s = stp emptyS l (i + k) := ⟨_, rfl⟩
      have HA := Lib.hid (show andP nodes l i (k + 1) = andP nodes l i k &&& s.free by rw [hs]; rfl)
      rw [← hs] at HC
      clear hs
      go_wp2_with (first
        | (refine wpList_load_ad (by kernel_rfl) 113 _ rfl ((ad.add (i * 5)).add (k * 5)) (spL s) HC.out rfl _ (spV s) rfl Tryd.underlying113 rfl (by kernel_rfl) ?_; clear HC)
        | (refine wpList_alloc_b rfl (some 11) rfl 113 z5P (by kernel_rfl) ?_; intro g3 W9 hb hB hg; have HS9 := Lib.hid (HS8.out.new hb hB hg); clear hb hB hg HS8)
        | (refine wpList_store_at rfl 113 _ _ rfl (HS9.out.at_ 2 rfl) (spV s) rfl rfl (by kernel_rfl) (Nat.le_of_ble_eq_true rfl) (by kernel_rfl) ?_; intro W10 hB hP; have HS10 := Lib.hid (HS9.out.put 2 rfl (new := spA s) hB hP); clear hB hP HS9)
        | (refine wpList_load_at rfl 24 _ rfl (HS10.out.at_ 1 rfl) 4 (nsV (andP nodes l i k)) rfl _ Tryd.underlying24 rfl (by kernel_rfl) (Nat.le_of_ble_eq_true rfl) rfl ?_)
        | (refine wpList_load_at rfl 24 _ rfl (HS10.out.at_ 2 rfl) 4 (nsV s.free) rfl _ Tryd.underlying24 rfl (by kernel_rfl) (Nat.le_of_ble_eq_true rfl) rfl ?_))
      refine (and_c _ _ _).mono ?_
      rintro e W11 ⟨rfl, hb1⟩
      have HS11 := Lib.hid (HS10.out.after hb1)
      clear hb1 HS10
      go_wp2_with (refine wpList_store_at rfl 24 _ _ rfl (HS11.out.at_ 1 rfl) (nsV (andP nodes l i k &&& s.free)) rfl rfl (by kernel_rfl) (Nat.le_of_ble_eq_true rfl) (by kernel_rfl) ?_; intro W12 hB hP; have HS12 := Lib.hid (HS11.out.put 1 rfl (new := nsA (andP nodes l i k &&& s.free)) hB hP); clear hB hP HS11)
      refine ⟨⟨k + 1, by omega, by go_num, ?_⟩, by simp [intOf]; omega⟩
      rw [HA.out]
      exact Lib.hid (Ms.cut (l := [.blk g1 24 z4P, .blk g2 24 _]) (k := [.blk g3 113 _]) HS12.out)
    · obtain rfl : k = m := by omega
      have HS9 := HS8.out
      rw [HD.out] at HS9
      have HS10 := Lib.hid HS9
      clear HS9 HS8
      go_wp2_with (first
        | (refine wpList_load_at rfl 24 _ rfl (HS10.out.at_ 1 rfl) 4 (nsV (durS nodes l lo hi)) rfl _ Tryd.underlying24 rfl (by kernel_rfl) (Nat.le_of_ble_eq_true rfl) rfl ?_)
        | (refine wpList_store_at rfl 24 _ _ rfl (HS10.out.at_ 0 rfl) (nsV (durS nodes l lo hi)) rfl rfl (by kernel_rfl) (Nat.le_of_ble_eq_true rfl) (by kernel_rfl) ?_; intro W12 hB hP; have HS12 := Lib.hid (HS10.out.put 0 rfl (new := nsA (durS nodes l lo hi)) hB hP); clear hB hP HS10))
      exact post_cell_tmp (x := .int .i64 0) rfl rfl rfl (HS12.out.at_ 0 rfl) Tryd.underlying24 rfl (by kernel_rfl) rfl ⟨rfl, HS12.out.below⟩
/-- What is free all through a span, and whether it may be. -/
def durN (nodes : NS) (l : List (Sp NS)) (t0 lo hi : Int) : NS := if spanE t0 lo hi = 0 then durS nodes l lo hi else emptyS
theorem during_c (g : Nat) (nodes : NS) (A : Option Addr) (c : Nat) (l : List (Sp NS)) (t0 lo hi : Int) (w : World) (h : PfOk w g nodes A c l t0) :
    Calls Tryd.prog 54 #[.pointer (some ⟨g, 0, none⟩), .int .i64 lo, .int .i64 hi] w fun e w' => e = .returned (.tuple #[nsV (durN nodes l t0 lo hi), .int .i64 (spanE t0 lo hi)]) ∧ Below w.heap.size w w' := by
  unfold durN
  rcases spanE_cases t0 lo hi with h1 | h1
  · rw [h1, if_pos rfl]; exact during_yes g nodes A c l t0 lo hi w h h1
  · rw [h1, if_neg (by decide)]; exact during_no g nodes A c l t0 lo hi w h h1
end Go.Proofs.YtkgphbjneaagoaaDoor
