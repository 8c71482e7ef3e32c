/- Prof: Give. -/
import Derived.Test.YtkgdcicaokekfaaDoorFd
set_option linter.unusedVariables false
namespace Go.Proofs.YtkgdcicaokekfaaDoor
open Go.RowKit Go.Sort

set_option maxRecDepth 100000 in
set_option maxHeartbeats 8000000 in
theorem give_1 (g : Nat) (nodes : NS) (A : Option Addr) (c : Nat) (l : List (Sp NS)) (t0 lo hi : Int) (s : NS) (w : World) (h : PfOk w g nodes A c l t0) (h4 : l.length ≤ 4096) (hE : spanE t0 lo hi = 1) :
    Calls Tryd.prog 22 #[.pointer (some ⟨g, 0, none⟩), nsV s, .int .i64 lo, .int .i64 hi] w (PfPost w g nodes A c l (.int .i64 1) l) := by
  have HE := Lib.hid hE
  have H4 := Lib.hid h4
  have HH := Lib.hid h
  have HS0 := Lib.hid h.start
  clear h h4 hE
  go_enter Tryd.func22, Tryd.ntmps22
  go_wp2_with (have hq := HS0; clear hq; refine wpList_alloc_b rfl (some 5) rfl 24 (nsA s) (by kernel_rfl) ?_; intro g1 W1 hb hB hg; have HS1 := Lib.hid (HS0.out.new hb hB hg); clear hb hB hg HS0)
  refine (span_pc g nodes A c l t0 lo hi _ (HH.out.in_ HS1.out)).mono ?_
  rintro e W2 ⟨rfl, hb⟩
  have HS2 := Lib.hid (HS1.out.after hb)
  clear hb HS1
  rw [HE.out]
  go_wp2_with fail
  go_ret
  exact ⟨rfl, A, c, HS2.out.pfOf 0 1 rfl rfl (by decide)⟩
set_option maxRecDepth 100000 in
set_option maxHeartbeats 8000000 in
theorem give_6 (g : Nat) (nodes : NS) (A : Option Addr) (c : Nat) (l : List (Sp NS)) (t0 lo hi : Int) (s : NS) (w : World) (h : PfOk w g nodes A c l t0) (h4 : l.length ≤ 4096) (hE : spanE t0 lo hi = 0) (hN : notS s nodes ≠ emptyS) :
    Calls Tryd.prog 22 #[.pointer (some ⟨g, 0, none⟩), nsV s, .int .i64 lo, .int .i64 hi] w (PfPost w g nodes A c l (.int .i64 6) l) := by
  have HE := Lib.hid hE
  have H4 := Lib.hid h4
  have HH := Lib.hid h
  have HS0 := Lib.hid h.start
  have HX := Lib.hid (spanE_zero hE)
  have HEN := Lib.hid (fun w9 => show (Op.equalIn 10000 24 (nsV (notS s nodes)) (nsV emptyS)).run Tryd.prog w9 = .ok false w9 by rw [eqNs_run]; simp [hN])
  clear h h4 hE hN
  go_enter Tryd.func22, Tryd.ntmps22
  go_wp2_with (have hq := HS0; clear hq; refine wpList_alloc_b rfl (some 5) rfl 24 (nsA s) (by kernel_rfl) ?_; intro g1 W1 hb hB hg; have HS1 := Lib.hid (HS0.out.new hb hB hg); clear hb hB hg HS0)
  refine (span_pc g nodes A c l t0 lo hi _ (HH.out.in_ HS1.out)).mono ?_
  rintro e W2 ⟨rfl, hb⟩
  have HS2 := Lib.hid (HS1.out.after hb)
  clear hb HS1
  rw [HE.out]
  go_wp2_with fail
  refine region_b (Ms w _ _) (by kernel_rfl) (by kernel_rfl) HS2.out ?_
  clear HS2
  intro W5 hS
  have q0 := hS.on 0 rfl
  have HS5 := Lib.hid hS
  clear hS
  have HNC := Lib.hid (fun d os => not_c s nodes (grow (redrawn W5 d) os))
  repeat (first
    | (refine wpQuiet_load_b (by kernel_rfl) 24 _ rfl (HS5.out.at_ 2 rfl) 4 (nsV s) rfl _ Tryd.underlying24 rfl (by kernel_rfl) (Nat.le_of_ble_eq_true rfl) rfl ?_)
    | (refine wpQuiet_load_b (by kernel_rfl) 24 _ rfl (HS5.out.at_ 0 rfl) 4 (nsV nodes) rfl _ Tryd.underlying24 rfl (by kernel_rfl) (Nat.le_of_ble_eq_true rfl) rfl ?_)
    | (refine wpQuiet_neq (by kernel_rfl) 24 _ _ _ rfl rfl rfl (by kernel_rfl) false (fun w9 => HEN.out w9) ?_)
    | go_big_quiet_step (with_reducible exact Calls.regrown_of (HNC.out _ _)) | quiet_step (with_reducible exact Calls.regrown_of (HNC.out _ _)))
  refine wpQuiet_nil ?_
  intro W6 hb
  have HS6 := Lib.hid (HS5.out.after hb)
  clear hb HS5 q0 HNC
  go_wp2_with fail
  go_ret
  exact ⟨rfl, A, c, HS6.out.pfOf 0 1 rfl rfl (by decide)⟩
set_option maxRecDepth 100000 in
set_option maxHeartbeats 8000000 in
theorem give_9 (g : Nat) (nodes : NS) (A : Option Addr) (c : Nat) (l : List (Sp NS)) (t0 lo hi : Int) (s : NS) (w : World) (h : PfOk w g nodes A c l t0) (h4 : l.length ≤ 4096) (hE : spanE t0 lo hi = 0) (hN : notS s nodes = emptyS) (hD : ¬ ∀ t, lo ≤ t → t < hi → frA emptyS l t &&& s = emptyS) :
    Calls Tryd.prog 22 #[.pointer (some ⟨g, 0, none⟩), nsV s, .int .i64 lo, .int .i64 hi] w (PfPost w g nodes A c l (.int .i64 9) l) := by
  have HE := Lib.hid hE
  have H4 := Lib.hid h4
  obtain ⟨h0, h1, h2⟩ := spanE_zero hE
  obtain ⟨i, hi_⟩ := At.ex (d := emptyS) (t := lo) h.prf h0
  obtain ⟨j, hj⟩ := At.ex (d := emptyS) (t := hi - 1) h.prf (by omega)
  obtain ⟨ad, hAe, -⟩ := h.read.2.2 h.pos
  subst hAe
  have hij := hi_.mono h.prf.can hj (by omega)
  have hjl := hj.lt
  have HW := Lib.hid (fun w0 (h0' : PfOk w0 g nodes (some ad) c l t0) => within_c g nodes ad c l t0 lo hi i j w0 h0' h0 h1 h2 hi_ hj)
  rw [← span_steps (d := emptyS) h.prf h0 h1 hi_ hj (fun f => f &&& s = emptyS)] at hD
  have HD := Lib.hid hD
  obtain ⟨m, hm⟩ : ∃ m, m = j + 1 - i := ⟨_, rfl⟩
  have hmj : ∀ k, i ≤ k → k ≤ j → k - i < m ∧ i + (k - i) = k := fun k a b => by omega
  have HMJ := Lib.hid hmj
  rw [← hm] at HW
  have hlen := h.len
  have hmI : (m : Int) ≤ 1048576 := by omega
  have HIL := Lib.hid (show ∀ k, k < m → i + k < l.length ∧ i + k ≤ j from fun k hk => by omega)
  have HH := Lib.hid h
  have HS0 := Lib.hid h.start
  have HX := Lib.hid (spanE_zero hE)
  have HEN := Lib.hid (fun w9 => show (Op.equalIn 10000 24 (nsV (notS s nodes)) (nsV emptyS)).run Tryd.prog w9 = .ok true w9 by rw [eqNs_run]; simp [hN])
  clear h h4 hE hN hD h0 h1 h2 hi_ hj hij hjl hm hmj hlen
  go_enter Tryd.func22, Tryd.ntmps22
  go_wp2_with (have hq := HS0; clear hq; refine wpList_alloc_b rfl (some 5) rfl 24 (nsA s) (by kernel_rfl) ?_; intro g1 W1 hb hB hg; have HS1 := Lib.hid (HS0.out.new hb hB hg); clear hb hB hg HS0)
  refine (span_pc g nodes (some ad) c l t0 lo hi _ (HH.out.in_ HS1.out)).mono ?_
  rintro e W2 ⟨rfl, hb⟩
  have HS2 := Lib.hid (HS1.out.after hb)
  clear hb HS1
  rw [HE.out]
  go_wp2_with fail
  refine region_b (Ms w _ _) (by kernel_rfl) (by kernel_rfl) HS2.out ?_
  clear HS2
  intro W5 hS
  have q0 := hS.on 0 rfl
  have HS5 := Lib.hid hS
  clear hS
  have HNC := Lib.hid (fun d os => not_c s nodes (grow (redrawn W5 d) os))
  repeat (first
    | (refine wpQuiet_load_b (by kernel_rfl) 24 _ rfl (HS5.out.at_ 2 rfl) 4 (nsV s) rfl _ Tryd.underlying24 rfl (by kernel_rfl) (Nat.le_of_ble_eq_true rfl) rfl ?_)
    | (refine wpQuiet_load_b (by kernel_rfl) 24 _ rfl (HS5.out.at_ 0 rfl) 4 (nsV nodes) rfl _ Tryd.underlying24 rfl (by kernel_rfl) (Nat.le_of_ble_eq_true rfl) rfl ?_)
    | (refine wpQuiet_neq (by kernel_rfl) 24 _ _ _ rfl rfl rfl (by kernel_rfl) true (fun w9 => HEN.out w9) ?_)
    | go_big_quiet_step (with_reducible exact Calls.regrown_of (HNC.out _ _)) | quiet_step (with_reducible exact Calls.regrown_of (HNC.out _ _)))
  refine wpQuiet_nil ?_
  intro W6 hb
  have HS6 := Lib.hid (HS5.out.after hb)
  clear hb HS5 q0 HNC
  go_wp2_with fail
  refine (HW.out _ (HH.out.in_ HS6.out)).mono ?_
  rintro e W7 ⟨rfl, hb⟩
  have HS7 := Lib.hid (HS6.out.after hb)
  clear hb HS6
  go_wp2_with fail
  go_loopw [32] (fun k wr => ∃ kk : Nat, kk ≤ m ∧ k = .int .i64 (kk : Nat) ∧ Hid (∀ k, k < kk → (stp emptyS l (i + k)).free &&& s = emptyS) ∧ Hid (Ms w (Own.pf g nodes (some ad) c l).bl [blkP g nodes (some ad) c l, rowP (some ad) c l, .blk g1 24 (nsA s)] wr)) (fun k _ => m - (intOf k).toNat)
  case atStart => exact ⟨0, by omega, rfl, Lib.hid (fun k hk => absurd hk (by omega)), HS7⟩
  case round =>
    obtain ⟨k, hkm, rfl, HAll, HS8⟩ := hrel
    by_cases hlt : k < m
    · have hltI : (k : Int) < (m : Int) := by omega
      have HC := Lib.hid (stepCells (HH.out.in_ HS8.out) (HIL.out k hlt).1)
      obtain ⟨x, hx⟩ : ∃ x, x = stp emptyS l (i + k) := ⟨_, rfl⟩
      have HXX := Lib.hid hx
      rw [← hx] at HC
      clear hx
      go_wp2_with (first
        | (have hq := HC; clear hq; refine wpList_load_ad (by kernel_rfl) 60 _ rfl ((ad.add (i * 5)).add (k * 5)) (spL x) HC.out rfl _ (spV x) rfl Tryd.underlying60 rfl (by kernel_rfl) ?_; clear HC)
        | (have hq := HS8; clear hq; refine wpList_alloc_b rfl (some 11) rfl 60 z5P (by kernel_rfl) ?_; intro g3 W9 hb hB hg; have HS9 := Lib.hid (HS8.out.new hb hB hg); clear hb hB hg HS8)
        | (have hq := HS9; clear hq; refine wpList_store_at rfl 60 _ _ rfl (HS9.out.at_ 3 rfl) (spV x) rfl rfl (by kernel_rfl) (Nat.le_of_ble_eq_true rfl) (by kernel_rfl) ?_; intro W10 hB hP; have HS10 := Lib.hid (HS9.out.put 3 rfl (new := spA x) hB hP); clear hB hP HS9)
        | (have hq := HS10; clear hq; refine wpList_load_at rfl 24 _ rfl (HS10.out.at_ 3 rfl) 4 (nsV x.free) rfl _ Tryd.underlying24 rfl (by kernel_rfl) (Nat.le_of_ble_eq_true rfl) rfl ?_)
        | (have hq := HS10; clear hq; refine wpList_load_at rfl 24 _ rfl (HS10.out.at_ 2 rfl) 4 (nsV s) rfl _ Tryd.underlying24 rfl (by kernel_rfl) (Nat.le_of_ble_eq_true rfl) rfl ?_))
      refine (and_c _ _ _).mono ?_
      rintro e W11 ⟨rfl, hb1⟩
      have HS11 := Lib.hid (HS10.out.after hb1)
      clear hb1 HS10
      by_cases hx : x.free &&& s = emptyS
      · have HEX := Lib.hid (fun w9 => show (Op.equalIn 10000 24 (nsV (x.free &&& s)) (nsV emptyS)).run Tryd.prog w9 = .ok true w9 by rw [eqNs_run]; simp [hx])
        go_wp2_with (have hq := HEX; clear hq; refine wpList_neq (by kernel_rfl) 24 _ _ _ rfl rfl rfl (by kernel_rfl) true (HEX.out _) ?_; clear HEX)
        refine ⟨⟨k + 1, by omega, by go_num, Lib.hid (fun q hq => ?_), ?_⟩, by simp [intOf]; omega⟩
        · rcases Nat.lt_or_ge q k with h5 | h5
          · exact HAll.out q h5
          · have e : q = k := by omega
            rw [e, ← HXX.out]; exact hx
        · exact Lib.hid (Ms.cut (l := [blkP g nodes (some ad) c l, rowP (some ad) c l, .blk g1 24 (nsA s)]) (k := [.blk g3 60 _]) HS11.out)
      · have HEX := Lib.hid (fun w9 => show (Op.equalIn 10000 24 (nsV (x.free &&& s)) (nsV emptyS)).run Tryd.prog w9 = .ok false w9 by rw [eqNs_run]; simp [hx])
        go_wp2_with (have hq := HEX; clear hq; refine wpList_neq (by kernel_rfl) 24 _ _ _ rfl rfl rfl (by kernel_rfl) false (HEX.out _) ?_; clear HEX)
        go_ret
        exact ⟨rfl, some ad, c, HS11.out.pfOf 0 1 rfl rfl (by decide)⟩
    · obtain rfl : k = m := by omega
      refine absurd (fun q h1 h2 => ?_) HD.out
      have := HAll.out (q - i) (HMJ.out q h1 h2).1
      rwa [(HMJ.out q h1 h2).2] at this
set_option maxRecDepth 100000 in
set_option maxHeartbeats 8000000 in
theorem give_5 (g : Nat) (nodes : NS) (A : Option Addr) (c : Nat) (l : List (Sp NS)) (t0 lo hi : Int) (s : NS) (w : World) (h : PfOk w g nodes A c l t0) (h4 : l.length ≤ 4096) (hE : spanE t0 lo hi = 0) (hN : notS s nodes = emptyS) (hD : ∀ t, lo ≤ t → t < hi → frA emptyS l t &&& s = emptyS) (hL : 4096 < (turnL 2199023255552 lo hi (fun f => f ||| s) [] l).length) :
    Calls Tryd.prog 22 #[.pointer (some ⟨g, 0, none⟩), nsV s, .int .i64 lo, .int .i64 hi] w (PfPost w g nodes A c l (.int .i64 5) l) := by
  have HE := Lib.hid hE
  have H4 := Lib.hid h4
  obtain ⟨h0, h1, h2⟩ := spanE_zero hE
  obtain ⟨i, hi_⟩ := At.ex (d := emptyS) (t := lo) h.prf h0
  obtain ⟨j, hj⟩ := At.ex (d := emptyS) (t := hi - 1) h.prf (by omega)
  obtain ⟨ad, hAe, -⟩ := h.read.2.2 h.pos
  subst hAe
  have hij := hi_.mono h.prf.can hj (by omega)
  have hjl := hj.lt
  have HW := Lib.hid (fun w0 (h0' : PfOk w0 g nodes (some ad) c l t0) => within_c g nodes ad c l t0 lo hi i j w0 h0' h0 h1 h2 hi_ hj)
  rw [← span_steps (d := emptyS) h.prf h0 h1 hi_ hj (fun f => f &&& s = emptyS)] at hD
  have HD := Lib.hid hD
  obtain ⟨m, hm⟩ : ∃ m, m = j + 1 - i := ⟨_, rfl⟩
  have hmj : ∀ k, i ≤ k → k ≤ j → k - i < m ∧ i + (k - i) = k := fun k a b => by omega
  have HMJ := Lib.hid hmj
  rw [← hm] at HW
  have hlen := h.len
  have hmI : (m : Int) ≤ 1048576 := by omega
  have HIL := Lib.hid (show ∀ k, k < m → i + k < l.length ∧ i + k ≤ j from fun k hk => by omega)
  have HH := Lib.hid h
  have HS0 := Lib.hid h.start
  have HX := Lib.hid (spanE_zero hE)
  have HEN := Lib.hid (fun w9 => show (Op.equalIn 10000 24 (nsV (notS s nodes)) (nsV emptyS)).run Tryd.prog w9 = .ok true w9 by rw [eqNs_run]; simp [hN])
  have HL := Lib.hid hL
  clear h h4 hE hN hD h0 h1 h2 hi_ hj hij hjl hm hmj hlen hL
  go_enter Tryd.func22, Tryd.ntmps22
  go_wp2_with (have hq := HS0; clear hq; refine wpList_alloc_b rfl (some 5) rfl 24 (nsA s) (by kernel_rfl) ?_; intro g1 W1 hb hB hg; have HS1 := Lib.hid (HS0.out.new hb hB hg); clear hb hB hg HS0)
  refine (span_pc g nodes (some ad) c l t0 lo hi _ (HH.out.in_ HS1.out)).mono ?_
  rintro e W2 ⟨rfl, hb⟩
  have HS2 := Lib.hid (HS1.out.after hb)
  clear hb HS1
  rw [HE.out]
  go_wp2_with fail
  refine region_b (Ms w _ _) (by kernel_rfl) (by kernel_rfl) HS2.out ?_
  clear HS2
  intro W5 hS
  have q0 := hS.on 0 rfl
  have HS5 := Lib.hid hS
  clear hS
  have HNC := Lib.hid (fun d os => not_c s nodes (grow (redrawn W5 d) os))
  repeat (first
    | (refine wpQuiet_load_b (by kernel_rfl) 24 _ rfl (HS5.out.at_ 2 rfl) 4 (nsV s) rfl _ Tryd.underlying24 rfl (by kernel_rfl) (Nat.le_of_ble_eq_true rfl) rfl ?_)
    | (refine wpQuiet_load_b (by kernel_rfl) 24 _ rfl (HS5.out.at_ 0 rfl) 4 (nsV nodes) rfl _ Tryd.underlying24 rfl (by kernel_rfl) (Nat.le_of_ble_eq_true rfl) rfl ?_)
    | (refine wpQuiet_neq (by kernel_rfl) 24 _ _ _ rfl rfl rfl (by kernel_rfl) true (fun w9 => HEN.out w9) ?_)
    | go_big_quiet_step (with_reducible exact Calls.regrown_of (HNC.out _ _)) | quiet_step (with_reducible exact Calls.regrown_of (HNC.out _ _)))
  refine wpQuiet_nil ?_
  intro W6 hb
  have HS6 := Lib.hid (HS5.out.after hb)
  clear hb HS5 q0 HNC
  go_wp2_with fail
  refine (HW.out _ (HH.out.in_ HS6.out)).mono ?_
  rintro e W7 ⟨rfl, hb⟩
  have HS7 := Lib.hid (HS6.out.after hb)
  clear hb HS6
  go_wp2_with fail
  go_loopw [32] (fun k wr => ∃ kk : Nat, kk ≤ m ∧ k = .int .i64 (kk : Nat) ∧ Hid (∀ k, k < kk → (stp emptyS l (i + k)).free &&& s = emptyS) ∧ Hid (Ms w (Own.pf g nodes (some ad) c l).bl [blkP g nodes (some ad) c l, rowP (some ad) c l, .blk g1 24 (nsA s)] wr)) (fun k _ => m - (intOf k).toNat)
  case atStart => exact ⟨0, by omega, rfl, Lib.hid (fun k hk => absurd hk (by omega)), HS7⟩
  case round =>
    obtain ⟨k, hkm, rfl, HAll, HS8⟩ := hrel
    by_cases hlt : k < m
    · have hltI : (k : Int) < (m : Int) := by omega
      have HC := Lib.hid (stepCells (HH.out.in_ HS8.out) (HIL.out k hlt).1)
      obtain ⟨x, hx⟩ : ∃ x, x = stp emptyS l (i + k) := ⟨_, rfl⟩
      have HXX := Lib.hid hx
      rw [← hx] at HC
      clear hx
      go_wp2_with (first
        | (have hq := HC; clear hq; refine wpList_load_ad (by kernel_rfl) 60 _ rfl ((ad.add (i * 5)).add (k * 5)) (spL x) HC.out rfl _ (spV x) rfl Tryd.underlying60 rfl (by kernel_rfl) ?_; clear HC)
        | (have hq := HS8; clear hq; refine wpList_alloc_b rfl (some 11) rfl 60 z5P (by kernel_rfl) ?_; intro g3 W9 hb hB hg; have HS9 := Lib.hid (HS8.out.new hb hB hg); clear hb hB hg HS8)
        | (have hq := HS9; clear hq; refine wpList_store_at rfl 60 _ _ rfl (HS9.out.at_ 3 rfl) (spV x) rfl rfl (by kernel_rfl) (Nat.le_of_ble_eq_true rfl) (by kernel_rfl) ?_; intro W10 hB hP; have HS10 := Lib.hid (HS9.out.put 3 rfl (new := spA x) hB hP); clear hB hP HS9)
        | (have hq := HS10; clear hq; refine wpList_load_at rfl 24 _ rfl (HS10.out.at_ 3 rfl) 4 (nsV x.free) rfl _ Tryd.underlying24 rfl (by kernel_rfl) (Nat.le_of_ble_eq_true rfl) rfl ?_)
        | (have hq := HS10; clear hq; refine wpList_load_at rfl 24 _ rfl (HS10.out.at_ 2 rfl) 4 (nsV s) rfl _ Tryd.underlying24 rfl (by kernel_rfl) (Nat.le_of_ble_eq_true rfl) rfl ?_))
      refine (and_c _ _ _).mono ?_
      rintro e W11 ⟨rfl, hb1⟩
      have HS11 := Lib.hid (HS10.out.after hb1)
      clear hb1 HS10
      by_cases hx : x.free &&& s = emptyS
      · have HEX := Lib.hid (fun w9 => show (Op.equalIn 10000 24 (nsV (x.free &&& s)) (nsV emptyS)).run Tryd.prog w9 = .ok true w9 by rw [eqNs_run]; simp [hx])
        go_wp2_with (have hq := HEX; clear hq; refine wpList_neq (by kernel_rfl) 24 _ _ _ rfl rfl rfl (by kernel_rfl) true (HEX.out _) ?_; clear HEX)
        refine ⟨⟨k + 1, by omega, by go_num, Lib.hid (fun q hq => ?_), ?_⟩, by simp [intOf]; omega⟩
        · rcases Nat.lt_or_ge q k with h5 | h5
          · exact HAll.out q h5
          · have e : q = k := by omega
            rw [e, ← HXX.out]; exact hx
        · exact Lib.hid (Ms.cut (l := [blkP g nodes (some ad) c l, rowP (some ad) c l, .blk g1 24 (nsA s)]) (k := [.blk g3 60 _]) HS11.out)
      · exact absurd (HXX.out ▸ HD.out (i + k) (by omega) (HIL.out k hlt).2) hx
    · obtain rfl : k = m := by omega
      go_wp2_with fail
      refine (turn_c g nodes (some ad) c l t0 lo hi _ (HH.out.in_ HS8.out) H4.out HX.out.1 HX.out.2.1 HX.out.2.2 _ g1 s (fun f => f ||| s) (giveDo_k g1) (HS8.out.at_ 2 rfl) (fun W f hB => giveDo_c g1 s f W hB)).mono ?_
      rintro e W8 ⟨A2, c2, rfl, hM⟩
      have HS9 := Lib.hid (HS8.out.made hM)
      clear hM HS8
      go_wp2_with fail
      refine (set_no g A2 c2 _ _ HL.out (by have := (turn_prf (d := emptyS) (do_ := fun f => f ||| s) HH.out.prf HX.out.2.1).2.2; have := H4.out; omega)).mono ?_
      rintro e W9 ⟨rfl, hb⟩
      have HS10 := Lib.hid (HS9.out.after hb)
      clear hb HS9
      go_wp2_with fail
      go_ret
      exact ⟨rfl, some ad, c, HS10.out.pfOf 0 1 rfl rfl (by decide)⟩
set_option maxRecDepth 100000 in
set_option maxHeartbeats 8000000 in
theorem give_0 (g : Nat) (nodes : NS) (A : Option Addr) (c : Nat) (l : List (Sp NS)) (t0 lo hi : Int) (s : NS) (w : World) (h : PfOk w g nodes A c l t0) (h4 : l.length ≤ 4096) (hE : spanE t0 lo hi = 0) (hN : notS s nodes = emptyS) (hD : ∀ t, lo ≤ t → t < hi → frA emptyS l t &&& s = emptyS) (hL : (turnL 2199023255552 lo hi (fun f => f ||| s) [] l).length ≤ 4096) :
    Calls Tryd.prog 22 #[.pointer (some ⟨g, 0, none⟩), nsV s, .int .i64 lo, .int .i64 hi] w (PfPost w g nodes A c l (.int .i64 0) (turnL 2199023255552 lo hi (fun f => f ||| s) [] l)) := by
  have HE := Lib.hid hE
  have H4 := Lib.hid h4
  obtain ⟨h0, h1, h2⟩ := spanE_zero hE
  obtain ⟨i, hi_⟩ := At.ex (d := emptyS) (t := lo) h.prf h0
  obtain ⟨j, hj⟩ := At.ex (d := emptyS) (t := hi - 1) h.prf (by omega)
  obtain ⟨ad, hAe, -⟩ := h.read.2.2 h.pos
  subst hAe
  have hij := hi_.mono h.prf.can hj (by omega)
  have hjl := hj.lt
  have HW := Lib.hid (fun w0 (h0' : PfOk w0 g nodes (some ad) c l t0) => within_c g nodes ad c l t0 lo hi i j w0 h0' h0 h1 h2 hi_ hj)
  rw [← span_steps (d := emptyS) h.prf h0 h1 hi_ hj (fun f => f &&& s = emptyS)] at hD
  have HD := Lib.hid hD
  obtain ⟨m, hm⟩ : ∃ m, m = j + 1 - i := ⟨_, rfl⟩
  have hmj : ∀ k, i ≤ k → k ≤ j → k - i < m ∧ i + (k - i) = k := fun k a b => by omega
  have HMJ := Lib.hid hmj
  rw [← hm] at HW
  have hlen := h.len
  have hmI : (m : Int) ≤ 1048576 := by omega
  have HIL := Lib.hid (show ∀ k, k < m → i + k < l.length ∧ i + k ≤ j from fun k hk => by omega)
  have HH := Lib.hid h
  have HS0 := Lib.hid h.start
  have HX := Lib.hid (spanE_zero hE)
  have HEN := Lib.hid (fun w9 => show (Op.equalIn 10000 24 (nsV (notS s nodes)) (nsV emptyS)).run Tryd.prog w9 = .ok true w9 by rw [eqNs_run]; simp [hN])
  have HL := Lib.hid hL
  clear h h4 hE hN hD h0 h1 h2 hi_ hj hij hjl hm hmj hlen hL
  go_enter Tryd.func22, Tryd.ntmps22
  go_wp2_with (have hq := HS0; clear hq; refine wpList_alloc_b rfl (some 5) rfl 24 (nsA s) (by kernel_rfl) ?_; intro g1 W1 hb hB hg; have HS1 := Lib.hid (HS0.out.new hb hB hg); clear hb hB hg HS0)
  refine (span_pc g nodes (some ad) c l t0 lo hi _ (HH.out.in_ HS1.out)).mono ?_
  rintro e W2 ⟨rfl, hb⟩
  have HS2 := Lib.hid (HS1.out.after hb)
  clear hb HS1
  rw [HE.out]
  go_wp2_with fail
  refine region_b (Ms w _ _) (by kernel_rfl) (by kernel_rfl) HS2.out ?_
  clear HS2
  intro W5 hS
  have q0 := hS.on 0 rfl
  have HS5 := Lib.hid hS
  clear hS
  have HNC := Lib.hid (fun d os => not_c s nodes (grow (redrawn W5 d) os))
  repeat (first
    | (refine wpQuiet_load_b (by kernel_rfl) 24 _ rfl (HS5.out.at_ 2 rfl) 4 (nsV s) rfl _ Tryd.underlying24 rfl (by kernel_rfl) (Nat.le_of_ble_eq_true rfl) rfl ?_)
    | (refine wpQuiet_load_b (by kernel_rfl) 24 _ rfl (HS5.out.at_ 0 rfl) 4 (nsV nodes) rfl _ Tryd.underlying24 rfl (by kernel_rfl) (Nat.le_of_ble_eq_true rfl) rfl ?_)
    | (refine wpQuiet_neq (by kernel_rfl) 24 _ _ _ rfl rfl rfl (by kernel_rfl) true (fun w9 => HEN.out w9) ?_)
    | go_big_quiet_step (with_reducible exact Calls.regrown_of (HNC.out _ _)) | quiet_step (with_reducible exact Calls.regrown_of (HNC.out _ _)))
  refine wpQuiet_nil ?_
  intro W6 hb
  have HS6 := Lib.hid (HS5.out.after hb)
  clear hb HS5 q0 HNC
  go_wp2_with fail
  refine (HW.out _ (HH.out.in_ HS6.out)).mono ?_
  rintro e W7 ⟨rfl, hb⟩
  have HS7 := Lib.hid (HS6.out.after hb)
  clear hb HS6
  go_wp2_with fail
  go_loopw [32] (fun k wr => ∃ kk : Nat, kk ≤ m ∧ k = .int .i64 (kk : Nat) ∧ Hid (∀ k, k < kk → (stp emptyS l (i + k)).free &&& s = emptyS) ∧ Hid (Ms w (Own.pf g nodes (some ad) c l).bl [blkP g nodes (some ad) c l, rowP (some ad) c l, .blk g1 24 (nsA s)] wr)) (fun k _ => m - (intOf k).toNat)
  case atStart => exact ⟨0, by omega, rfl, Lib.hid (fun k hk => absurd hk (by omega)), HS7⟩
  case round =>
    obtain ⟨k, hkm, rfl, HAll, HS8⟩ := hrel
    by_cases hlt : k < m
    · have hltI : (k : Int) < (m : Int) := by omega
      have HC := Lib.hid (stepCells (HH.out.in_ HS8.out) (HIL.out k hlt).1)
      obtain ⟨x, hx⟩ : ∃ x, x = stp emptyS l (i + k) := ⟨_, rfl⟩
      have HXX := Lib.hid hx
      rw [← hx] at HC
      clear hx
      go_wp2_with (first
        | (have hq := HC; clear hq; refine wpList_load_ad (by kernel_rfl) 60 _ rfl ((ad.add (i * 5)).add (k * 5)) (spL x) HC.out rfl _ (spV x) rfl Tryd.underlying60 rfl (by kernel_rfl) ?_; clear HC)
        | (have hq := HS8; clear hq; refine wpList_alloc_b rfl (some 11) rfl 60 z5P (by kernel_rfl) ?_; intro g3 W9 hb hB hg; have HS9 := Lib.hid (HS8.out.new hb hB hg); clear hb hB hg HS8)
        | (have hq := HS9; clear hq; refine wpList_store_at rfl 60 _ _ rfl (HS9.out.at_ 3 rfl) (spV x) rfl rfl (by kernel_rfl) (Nat.le_of_ble_eq_true rfl) (by kernel_rfl) ?_; intro W10 hB hP; have HS10 := Lib.hid (HS9.out.put 3 rfl (new := spA x) hB hP); clear hB hP HS9)
        | (have hq := HS10; clear hq; refine wpList_load_at rfl 24 _ rfl (HS10.out.at_ 3 rfl) 4 (nsV x.free) rfl _ Tryd.underlying24 rfl (by kernel_rfl) (Nat.le_of_ble_eq_true rfl) rfl ?_)
        | (have hq := HS10; clear hq; refine wpList_load_at rfl 24 _ rfl (HS10.out.at_ 2 rfl) 4 (nsV s) rfl _ Tryd.underlying24 rfl (by kernel_rfl) (Nat.le_of_ble_eq_true rfl) rfl ?_))
      refine (and_c _ _ _).mono ?_
      rintro e W11 ⟨rfl, hb1⟩
      have HS11 := Lib.hid (HS10.out.after hb1)
      clear hb1 HS10
      by_cases hx : x.free &&& s = emptyS
      · have HEX := Lib.hid (fun w9 => show (Op.equalIn 10000 24 (nsV (x.free &&& s)) (nsV emptyS)).run Tryd.prog w9 = .ok true w9 by rw [eqNs_run]; simp [hx])
        go_wp2_with (have hq := HEX; clear hq; refine wpList_neq (by kernel_rfl) 24 _ _ _ rfl rfl rfl (by kernel_rfl) true (HEX.out _) ?_; clear HEX)
        refine ⟨⟨k + 1, by omega, by go_num, Lib.hid (fun q hq => ?_), ?_⟩, by simp [intOf]; omega⟩
        · rcases Nat.lt_or_ge q k with h5 | h5
          · exact HAll.out q h5
          · have e : q = k := by omega
            rw [e, ← HXX.out]; exact hx
        · exact Lib.hid (Ms.cut (l := [blkP g nodes (some ad) c l, rowP (some ad) c l, .blk g1 24 (nsA s)]) (k := [.blk g3 60 _]) HS11.out)
      · exact absurd (HXX.out ▸ HD.out (i + k) (by omega) (HIL.out k hlt).2) hx
    · obtain rfl : k = m := by omega
      go_wp2_with fail
      refine (turn_c g nodes (some ad) c l t0 lo hi _ (HH.out.in_ HS8.out) H4.out HX.out.1 HX.out.2.1 HX.out.2.2 _ g1 s (fun f => f ||| s) (giveDo_k g1) (HS8.out.at_ 2 rfl) (fun W f hB => giveDo_c g1 s f W hB)).mono ?_
      rintro e W8 ⟨A2, c2, rfl, hM⟩
      have HS9 := Lib.hid (HS8.out.made hM)
      clear hM HS8
      go_wp2_with fail
      refine (set_yes g nodes A2 (some ad) c2 c _ l _ HL.out (HS9.out.at_ 0 rfl)).mono ?_
      rintro e W9 ⟨rfl, hB, hP⟩
      have HS10 := Lib.hid (HS9.out.put 0 rfl hB hP)
      clear hB hP HS9
      go_wp2_with fail
      go_ret
      exact ⟨rfl, A2, c2, HS10.out.pfOf 0 3 rfl rfl (by decide)⟩
/-- Nothing of s is free in the span. -/
def NoneIn (l : List (Sp NS)) (lo hi : Int) (s : NS) : Prop := ∀ t, lo ≤ t → t < hi → frA emptyS l t &&& s = emptyS
open Classical in
/-- What Give answers. -/
noncomputable def giveE (nodes : NS) (l : List (Sp NS)) (t0 lo hi : Int) (s : NS) : Int :=
  if spanE t0 lo hi = 1 then 1 else if notS s nodes ≠ emptyS then 6 else if ¬ NoneIn l lo hi s then 9 else if 4096 < (turnL 2199023255552 lo hi (fun f => f ||| s) [] l).length then 5 else 0
noncomputable def giveL (nodes : NS) (l : List (Sp NS)) (t0 lo hi : Int) (s : NS) : List (Sp NS) := if giveE nodes l t0 lo hi s = 0 then turnL 2199023255552 lo hi (fun f => f ||| s) [] l else l
theorem give_c (g : Nat) (nodes : NS) (A : Option Addr) (c : Nat) (l : List (Sp NS)) (t0 lo hi : Int) (s : NS) (w : World) (h : PfOk w g nodes A c l t0) (h4 : l.length ≤ 4096) :
    Calls Tryd.prog 22 #[.pointer (some ⟨g, 0, none⟩), nsV s, .int .i64 lo, .int .i64 hi] w (PfPost w g nodes A c l (.int .i64 (giveE nodes l t0 lo hi s)) (giveL nodes l t0 lo hi s)) := by
  unfold giveL giveE
  rcases spanE_cases t0 lo hi with h1 | h1
  · rw [if_neg (show ¬ spanE t0 lo hi = 1 by omega)]
    by_cases h2 : notS s nodes = emptyS
    · rw [if_neg (show ¬ notS s nodes ≠ emptyS from fun h => h h2)]
      by_cases h3 : NoneIn l lo hi s
      · rw [if_neg (show ¬ ¬ NoneIn l lo hi s from fun h => h h3)]
        by_cases h5 : 4096 < (turnL 2199023255552 lo hi (fun f => f ||| s) [] l).length
        · rw [if_pos h5, if_neg (by decide)]; exact give_5 g nodes A c l t0 lo hi s w h h4 h1 h2 h3 h5
        · rw [if_neg h5, if_pos rfl]; exact give_0 g nodes A c l t0 lo hi s w h h4 h1 h2 h3 (by omega)
      · rw [if_pos h3, if_neg (by decide)]; exact give_9 g nodes A c l t0 lo hi s w h h4 h1 h2 h3
    · rw [if_pos h2, if_neg (by decide)]; exact give_6 g nodes A c l t0 lo hi s w h h4 h1 h2
  · rw [if_pos h1, if_neg (by decide)]; exact give_1 g nodes A c l t0 lo hi s w h h4 h1
end Go.Proofs.YtkgdcicaokekfaaDoor
