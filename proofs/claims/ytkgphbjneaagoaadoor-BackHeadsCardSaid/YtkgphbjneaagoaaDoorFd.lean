/- Prof: set, Take. -/
import Derived.Test.YtkgphbjneaagoaaDoorFc
set_option linter.unusedVariables false
namespace Go.Proofs.YtkgphbjneaagoaaDoor
open Go.RowKit Go.Sort

theorem PfOk.start {w : World} {g : Nat} {nodes : NS} {A : Option Addr} {c : Nat} {l : List (Sp NS)} {t0 : Int} (h : PfOk w g nodes A c l t0) : Ms w (Own.pf g nodes A c l).bl [blkP g nodes A c l, rowP A c l] w :=
  Ms.start2 (a := blkP g nodes A c l) (b := rowP A c l) h.ok.1 h.ok.2.1 (fun k hk hk2 => h.ok.2.2 (by have e : k = g := hk; rw [← e]; exact hk2))
theorem PfOk.in_ {w w0 W : World} {ex : Nat → Prop} {m : List Own} {g : Nat} {nodes : NS} {A : Option Addr} {c : Nat} {l : List (Sp NS)} {t0 : Int} (h : PfOk w0 g nodes A c l t0) (hM : Ms w ex (blkP g nodes A c l :: rowP A c l :: m) W) : PfOk W g nodes A c l t0 :=
  ⟨⟨hM.ok 0 _ rfl, hM.ok 1 _ rfl, fun e => hM.apart 0 1 _ _ rfl rfl (by decide) g rfl e⟩, h.len, h.prf, h.low⟩
set_option maxRecDepth 100000 in
set_option maxHeartbeats 4000000 in
theorem set_no (g : Nat) (A : Option Addr) (c : Nat) (l : List (Sp NS)) (w : World) (h : 4096 < l.length) (hm : l.length ≤ 1048576) :
    Calls Tryd.prog 55 #[.pointer (some ⟨g, 0, none⟩), slP A c l] w fun e w' => e = .returned (.int .i64 5) ∧ Below w.heap.size w w' := by
  have hI : (4096 : Int) < (l.length : Int) := by omega
  go_enter Tryd.func55, Tryd.ntmps55
  go_wp2_with fail
  go_ret
  exact ⟨rfl, Below.refl _ _⟩
set_option maxRecDepth 100000 in
set_option maxHeartbeats 4000000 in
theorem set_yes (g : Nat) (nodes : NS) (A B : Option Addr) (c d : Nat) (l k : List (Sp NS)) (w : World) (h : l.length ≤ 4096) (hB : Blk w g 116 (pfA nodes B d k)) :
    Calls Tryd.prog 55 #[.pointer (some ⟨g, 0, none⟩), slP A c l] w fun e w' => e = .returned (.int .i64 0) ∧ Blk w' g 116 (pfA nodes A c l) ∧ Put w w' g := by
  have hI : ¬ (4096 : Int) < (l.length : Int) := by omega
  have HB := Lib.hid hB
  have hs := hB.rules.2.2
  clear hB h
  go_enter Tryd.func55, Tryd.ntmps55
  go_wp2_with (have hq := HB; clear hq; refine wpList_store_at rfl 114 _ _ rfl HB.out (slP A c l) rfl rfl (by kernel_rfl) (Nat.le_of_ble_eq_true rfl) (by kernel_rfl) ?_; intro W6 hB hP; have HB6 := Lib.hid (show Blk W6 g 116 (pfA nodes A c l) from hB); have HP6 := Lib.hid hP; clear hB hP HB)
  go_ret
  exact ⟨rfl, HB6.out, HP6.out⟩
set_option maxRecDepth 100000 in
set_option maxHeartbeats 4000000 in
theorem takeDo_c (gs : Nat) (s : NS) (f : NS) (w : World) (h : Blk w gs 24 (nsA s)) :
    Calls Tryd.prog 57 #[nsV f, .pointer (some ⟨gs, 0, none⟩)] w fun e w' => e = .returned (nsV (notS f s)) ∧ Below w.heap.size w w' := by
  have HB := Lib.hid h
  clear h
  go_enter Tryd.func57, Tryd.ntmps57
  have HS0 := Lib.hid (Ms.nil w noB)
  go_wp2_with (first
    | (have hq := HS0; clear hq; refine wpList_alloc_b rfl (some 2) rfl 24 (nsA f) (by kernel_rfl) ?_; intro g1 W1 hb hB hg; have HS1 := Lib.hid (HS0.out.new hb hB hg); have HB1 := Lib.hid (HB.out.after hb); clear hb hB hg HS0 HB)
    | (have hq := HS1; clear hq; refine wpList_alloc_b rfl (some 3) rfl 24 z4P (by kernel_rfl) ?_; intro g2 W2 hb hB hg; have HS2 := Lib.hid (HS1.out.new hb hB hg); have HB2 := Lib.hid (HB1.out.after hb); clear hb hB hg HS1 HB1)
    | (have hq := HS2; clear hq; refine wpList_load_at rfl 24 _ rfl (HS2.out.at_ 0 rfl) 4 (nsV f) rfl _ Tryd.underlying24 rfl (by kernel_rfl) (Nat.le_of_ble_eq_true rfl) rfl ?_)
    | (have hq := HB2; clear hq; refine wpList_load_at rfl 24 _ rfl HB2.out 4 (nsV s) rfl _ Tryd.underlying24 rfl (by kernel_rfl) (Nat.le_of_ble_eq_true rfl) rfl ?_))
  refine (not_c _ _ _).mono ?_
  rintro e W3 ⟨rfl, hb⟩
  have HS3 := Lib.hid (HS2.out.after hb)
  clear hb HS2 HB2
  go_wp2_with (have hq := HS3; clear hq; refine wpList_store_at rfl 24 _ _ rfl (HS3.out.at_ 1 rfl) (nsV (notS f s)) rfl rfl (by kernel_rfl) (Nat.le_of_ble_eq_true rfl) (by kernel_rfl) ?_; intro W4 hB hP; have HS4 := Lib.hid (HS3.out.put 1 rfl (new := nsA (notS f s)) hB hP); clear hB hP HS3)
  exact post_cell rfl rfl (HS4.out.at_ 1 rfl) Tryd.underlying24 rfl (by kernel_rfl) rfl ⟨rfl, HS4.out.below⟩
theorem takeDo_k (gs : Nat) (W : World) (f : NS) : (callFunc 57 #[nsV f, .pointer (some ⟨gs, 0, none⟩)]).run Tryd.prog W = .ok (.enter 57 #[nsV f, .pointer (some ⟨gs, 0, none⟩)]) W := by kernel_rfl
/-- What a method that turns a profile leaves. -/
def PfPost (w : World) (g : Nat) (nodes : NS) (A : Option Addr) (c : Nat) (l : List (Sp NS)) (v : Value) (l' : List (Sp NS)) (e : Ending) (W : World) : Prop := e = .returned v ∧ ∃ A' c', Ms w (Own.pf g nodes A c l).bl [.pf g nodes A' c' l'] W
set_option maxRecDepth 100000 in
set_option maxHeartbeats 8000000 in
theorem take_1 (g : Nat) (nodes : NS) (A : Option Addr) (c : Nat) (l : List (Sp NS)) (t0 lo hi : Int) (s : NS) (w : World) (h : PfOk w g nodes A c l t0) (h4 : l.length ≤ 4096) (hE : spanE t0 lo hi = 1) :
    Calls Tryd.prog 43 #[.pointer (some ⟨g, 0, none⟩), nsV s, .int .i64 lo, .int .i64 hi] w (PfPost w g nodes A c l (.int .i64 1) l) := by
  have HH := Lib.hid h
  have HE := Lib.hid hE
  have H4 := Lib.hid h4
  have HS0 := Lib.hid h.start
  have HDN := Lib.hid (show durN nodes l t0 lo hi = emptyS by unfold durN; rw [hE, if_neg (by decide)])
  clear h h4 hE
  go_enter Tryd.func43, Tryd.ntmps43
  go_wp2_with (have hq := HS0; clear hq; refine wpList_alloc_b rfl (some 5) rfl 24 (nsA s) (by kernel_rfl) ?_; intro g1 W1 hb hB hg; have HS1 := Lib.hid (HS0.out.new hb hB hg); clear hb hB hg HS0)
  refine (during_c g nodes A c l t0 lo hi _ (HH.out.in_ HS1.out)).mono ?_
  rintro e W2 ⟨rfl, hb⟩
  have HS2 := Lib.hid (HS1.out.after hb)
  clear hb HS1
  rw [HE.out, HDN.out]
  go_wp2_with (first
    | (have hq := HS2; clear hq; refine wpList_alloc_b rfl (some 9) rfl 24 z4P (by kernel_rfl) ?_; intro g3 W3 hb hB hg; have HS3 := Lib.hid (HS2.out.new hb hB hg); clear hb hB hg HS2)
    | (have hq := HS3; clear hq; refine wpList_store_at rfl 24 _ _ rfl (HS3.out.at_ 3 rfl) (nsV emptyS) rfl rfl (by kernel_rfl) (Nat.le_of_ble_eq_true rfl) (by kernel_rfl) ?_; intro W4 hB hP; have HS4 := Lib.hid (HS3.out.put 3 rfl (new := nsA emptyS) hB hP); clear hB hP HS3))
  go_ret
  exact ⟨rfl, A, c, HS4.out.pfOf 0 1 rfl rfl (by decide)⟩
set_option maxRecDepth 100000 in
set_option maxHeartbeats 8000000 in
theorem take_6 (g : Nat) (nodes : NS) (A : Option Addr) (c : Nat) (l : List (Sp NS)) (t0 lo hi : Int) (s : NS) (w : World) (h : PfOk w g nodes A c l t0) (h4 : l.length ≤ 4096) (hE : spanE t0 lo hi = 0) (hN : notS s nodes ≠ emptyS) :
    Calls Tryd.prog 43 #[.pointer (some ⟨g, 0, none⟩), nsV s, .int .i64 lo, .int .i64 hi] w (PfPost w g nodes A c l (.int .i64 6) l) := by
  have HH := Lib.hid h
  have HE := Lib.hid hE
  have H4 := Lib.hid h4
  have HS0 := Lib.hid h.start
  have HDN := Lib.hid (show durN nodes l t0 lo hi = durS nodes l lo hi by unfold durN; rw [hE, if_pos rfl])
  have HX := Lib.hid (spanE_zero hE)
  have HEN := Lib.hid (fun w9 => show (Op.equalIn 10000 24 (nsV (notS s nodes)) (nsV emptyS)).run Tryd.prog w9 = .ok false w9 by rw [eqNs_run]; simp [hN])
  clear h h4 hE hN
  go_enter Tryd.func43, Tryd.ntmps43
  go_wp2_with (have hq := HS0; clear hq; refine wpList_alloc_b rfl (some 5) rfl 24 (nsA s) (by kernel_rfl) ?_; intro g1 W1 hb hB hg; have HS1 := Lib.hid (HS0.out.new hb hB hg); clear hb hB hg HS0)
  refine (during_c g nodes A c l t0 lo hi _ (HH.out.in_ HS1.out)).mono ?_
  rintro e W2 ⟨rfl, hb⟩
  have HS2 := Lib.hid (HS1.out.after hb)
  clear hb HS1
  rw [HE.out, HDN.out]
  go_wp2_with (first
    | (have hq := HS2; clear hq; refine wpList_alloc_b rfl (some 9) rfl 24 z4P (by kernel_rfl) ?_; intro g3 W3 hb hB hg; have HS3 := Lib.hid (HS2.out.new hb hB hg); clear hb hB hg HS2)
    | (have hq := HS3; clear hq; refine wpList_store_at rfl 24 _ _ rfl (HS3.out.at_ 3 rfl) (nsV (durS nodes l lo hi)) rfl rfl (by kernel_rfl) (Nat.le_of_ble_eq_true rfl) (by kernel_rfl) ?_; intro W4 hB hP; have HS4 := Lib.hid (HS3.out.put 3 rfl (new := nsA (durS nodes l lo hi)) hB hP); clear hB hP HS3))
  refine region_b (Ms w _ _) (by kernel_rfl) (by kernel_rfl) HS4.out ?_
  clear HS4
  intro W5 hS
  have q0 := hS.on 0 rfl
  have HS5 := Lib.hid hS
  clear hS
  have HNC := Lib.hid (fun d os => not_c s nodes (grow (redrawn W5 d) os))
  repeat (first
    | (refine wpQuiet_load_b (by kernel_rfl) 24 _ rfl (HS5.out.at_ 2 rfl) 4 (nsV s) rfl _ Tryd.underlying24 rfl (by kernel_rfl) (Nat.le_of_ble_eq_true rfl) rfl ?_)
    | (refine wpQuiet_load_b (by kernel_rfl) 24 _ rfl (HS5.out.at_ 0 rfl) 4 (nsV nodes) rfl _ Tryd.underlying24 rfl (by kernel_rfl) (Nat.le_of_ble_eq_true rfl) rfl ?_)
    | (refine wpQuiet_neq (by kernel_rfl) 24 _ _ _ rfl rfl rfl (by kernel_rfl) false (fun w9 => HEN.out w9) ?_)
    | go_big_quiet_step (with_reducible exact Calls.regrown_of (HNC.out _ _)) | quiet_step (with_reducible exact Calls.regrown_of (HNC.out _ _)))
  refine wpQuiet_nil ?_
  intro W6 hb
  have HS6 := Lib.hid (HS5.out.after hb)
  clear hb HS5 q0 HNC
  go_wp2_with fail
  go_ret
  exact ⟨rfl, A, c, HS6.out.pfOf 0 1 rfl rfl (by decide)⟩
set_option maxRecDepth 100000 in
set_option maxHeartbeats 8000000 in
theorem take_9 (g : Nat) (nodes : NS) (A : Option Addr) (c : Nat) (l : List (Sp NS)) (t0 lo hi : Int) (s : NS) (w : World) (h : PfOk w g nodes A c l t0) (h4 : l.length ≤ 4096) (hE : spanE t0 lo hi = 0) (hN : notS s nodes = emptyS) (hD : notS s (durS nodes l lo hi) ≠ emptyS) :
    Calls Tryd.prog 43 #[.pointer (some ⟨g, 0, none⟩), nsV s, .int .i64 lo, .int .i64 hi] w (PfPost w g nodes A c l (.int .i64 9) l) := by
  have HH := Lib.hid h
  have HE := Lib.hid hE
  have H4 := Lib.hid h4
  have HS0 := Lib.hid h.start
  have HDN := Lib.hid (show durN nodes l t0 lo hi = durS nodes l lo hi by unfold durN; rw [hE, if_pos rfl])
  have HX := Lib.hid (spanE_zero hE)
  have HEN := Lib.hid (fun w9 => show (Op.equalIn 10000 24 (nsV (notS s nodes)) (nsV emptyS)).run Tryd.prog w9 = .ok true w9 by rw [eqNs_run]; simp [hN])
  have HED := Lib.hid (fun w9 => show (Op.equalIn 10000 24 (nsV (notS s (durS nodes l lo hi))) (nsV emptyS)).run Tryd.prog w9 = .ok false w9 by rw [eqNs_run]; simp [hD])
  clear h h4 hE hN hD
  go_enter Tryd.func43, Tryd.ntmps43
  go_wp2_with (have hq := HS0; clear hq; refine wpList_alloc_b rfl (some 5) rfl 24 (nsA s) (by kernel_rfl) ?_; intro g1 W1 hb hB hg; have HS1 := Lib.hid (HS0.out.new hb hB hg); clear hb hB hg HS0)
  refine (during_c g nodes A c l t0 lo hi _ (HH.out.in_ HS1.out)).mono ?_
  rintro e W2 ⟨rfl, hb⟩
  have HS2 := Lib.hid (HS1.out.after hb)
  clear hb HS1
  rw [HE.out, HDN.out]
  go_wp2_with (first
    | (have hq := HS2; clear hq; refine wpList_alloc_b rfl (some 9) rfl 24 z4P (by kernel_rfl) ?_; intro g3 W3 hb hB hg; have HS3 := Lib.hid (HS2.out.new hb hB hg); clear hb hB hg HS2)
    | (have hq := HS3; clear hq; refine wpList_store_at rfl 24 _ _ rfl (HS3.out.at_ 3 rfl) (nsV (durS nodes l lo hi)) rfl rfl (by kernel_rfl) (Nat.le_of_ble_eq_true rfl) (by kernel_rfl) ?_; intro W4 hB hP; have HS4 := Lib.hid (HS3.out.put 3 rfl (new := nsA (durS nodes l lo hi)) hB hP); clear hB hP HS3))
  refine region_b (Ms w _ _) (by kernel_rfl) (by kernel_rfl) HS4.out ?_
  clear HS4
  intro W5 hS
  have q0 := hS.on 0 rfl
  have HS5 := Lib.hid hS
  clear hS
  have HNC := Lib.hid (fun d os => not_c s nodes (grow (redrawn W5 d) os))
  repeat (first
    | (refine wpQuiet_load_b (by kernel_rfl) 24 _ rfl (HS5.out.at_ 2 rfl) 4 (nsV s) rfl _ Tryd.underlying24 rfl (by kernel_rfl) (Nat.le_of_ble_eq_true rfl) rfl ?_)
    | (refine wpQuiet_load_b (by kernel_rfl) 24 _ rfl (HS5.out.at_ 0 rfl) 4 (nsV nodes) rfl _ Tryd.underlying24 rfl (by kernel_rfl) (Nat.le_of_ble_eq_true rfl) rfl ?_)
    | (refine wpQuiet_neq (by kernel_rfl) 24 _ _ _ rfl rfl rfl (by kernel_rfl) true (fun w9 => HEN.out w9) ?_)
    | go_big_quiet_step (with_reducible exact Calls.regrown_of (HNC.out _ _)) | quiet_step (with_reducible exact Calls.regrown_of (HNC.out _ _)))
  refine wpQuiet_nil ?_
  intro W6 hb
  have HS6 := Lib.hid (HS5.out.after hb)
  clear hb HS5 q0 HNC
  go_wp2_with (first
    | (have hq := HS6; clear hq; refine wpList_load_at rfl 24 _ rfl (HS6.out.at_ 2 rfl) 4 (nsV s) rfl _ Tryd.underlying24 rfl (by kernel_rfl) (Nat.le_of_ble_eq_true rfl) rfl ?_)
    | (have hq := HS6; clear hq; refine wpList_load_at rfl 24 _ rfl (HS6.out.at_ 3 rfl) 4 (nsV (durS nodes l lo hi)) rfl _ Tryd.underlying24 rfl (by kernel_rfl) (Nat.le_of_ble_eq_true rfl) rfl ?_))
  refine (not_c _ _ _).mono ?_
  rintro e W7 ⟨rfl, hb⟩
  have HS7 := Lib.hid (HS6.out.after hb)
  clear hb HS6
  go_wp2_with (have hq := HS7; clear hq; refine wpList_neq (by kernel_rfl) 24 _ _ _ rfl rfl rfl (by kernel_rfl) false (HED.out _) ?_)
  go_ret
  exact ⟨rfl, A, c, HS7.out.pfOf 0 1 rfl rfl (by decide)⟩
set_option maxRecDepth 100000 in
set_option maxHeartbeats 8000000 in
theorem take_5 (g : Nat) (nodes : NS) (A : Option Addr) (c : Nat) (l : List (Sp NS)) (t0 lo hi : Int) (s : NS) (w : World) (h : PfOk w g nodes A c l t0) (h4 : l.length ≤ 4096) (hE : spanE t0 lo hi = 0) (hN : notS s nodes = emptyS) (hD : notS s (durS nodes l lo hi) = emptyS) (hL : 4096 < (turnL 2199023255552 lo hi (fun f => notS f s) [] l).length) :
    Calls Tryd.prog 43 #[.pointer (some ⟨g, 0, none⟩), nsV s, .int .i64 lo, .int .i64 hi] w (PfPost w g nodes A c l (.int .i64 5) l) := by
  have HH := Lib.hid h
  have HE := Lib.hid hE
  have H4 := Lib.hid h4
  have HS0 := Lib.hid h.start
  have HDN := Lib.hid (show durN nodes l t0 lo hi = durS nodes l lo hi by unfold durN; rw [hE, if_pos rfl])
  have HX := Lib.hid (spanE_zero hE)
  have HEN := Lib.hid (fun w9 => show (Op.equalIn 10000 24 (nsV (notS s nodes)) (nsV emptyS)).run Tryd.prog w9 = .ok true w9 by rw [eqNs_run]; simp [hN])
  have HED := Lib.hid (fun w9 => show (Op.equalIn 10000 24 (nsV (notS s (durS nodes l lo hi))) (nsV emptyS)).run Tryd.prog w9 = .ok true w9 by rw [eqNs_run]; simp [hD])
  have HL := Lib.hid hL
  clear h h4 hE hN hD hL
  go_enter Tryd.func43, Tryd.ntmps43
  go_wp2_with (have hq := HS0; clear hq; refine wpList_alloc_b rfl (some 5) rfl 24 (nsA s) (by kernel_rfl) ?_; intro g1 W1 hb hB hg; have HS1 := Lib.hid (HS0.out.new hb hB hg); clear hb hB hg HS0)
  refine (during_c g nodes A c l t0 lo hi _ (HH.out.in_ HS1.out)).mono ?_
  rintro e W2 ⟨rfl, hb⟩
  have HS2 := Lib.hid (HS1.out.after hb)
  clear hb HS1
  rw [HE.out, HDN.out]
  go_wp2_with (first
    | (have hq := HS2; clear hq; refine wpList_alloc_b rfl (some 9) rfl 24 z4P (by kernel_rfl) ?_; intro g3 W3 hb hB hg; have HS3 := Lib.hid (HS2.out.new hb hB hg); clear hb hB hg HS2)
    | (have hq := HS3; clear hq; refine wpList_store_at rfl 24 _ _ rfl (HS3.out.at_ 3 rfl) (nsV (durS nodes l lo hi)) rfl rfl (by kernel_rfl) (Nat.le_of_ble_eq_true rfl) (by kernel_rfl) ?_; intro W4 hB hP; have HS4 := Lib.hid (HS3.out.put 3 rfl (new := nsA (durS nodes l lo hi)) hB hP); clear hB hP HS3))
  refine region_b (Ms w _ _) (by kernel_rfl) (by kernel_rfl) HS4.out ?_
  clear HS4
  intro W5 hS
  have q0 := hS.on 0 rfl
  have HS5 := Lib.hid hS
  clear hS
  have HNC := Lib.hid (fun d os => not_c s nodes (grow (redrawn W5 d) os))
  repeat (first
    | (refine wpQuiet_load_b (by kernel_rfl) 24 _ rfl (HS5.out.at_ 2 rfl) 4 (nsV s) rfl _ Tryd.underlying24 rfl (by kernel_rfl) (Nat.le_of_ble_eq_true rfl) rfl ?_)
    | (refine wpQuiet_load_b (by kernel_rfl) 24 _ rfl (HS5.out.at_ 0 rfl) 4 (nsV nodes) rfl _ Tryd.underlying24 rfl (by kernel_rfl) (Nat.le_of_ble_eq_true rfl) rfl ?_)
    | (refine wpQuiet_neq (by kernel_rfl) 24 _ _ _ rfl rfl rfl (by kernel_rfl) true (fun w9 => HEN.out w9) ?_)
    | go_big_quiet_step (with_reducible exact Calls.regrown_of (HNC.out _ _)) | quiet_step (with_reducible exact Calls.regrown_of (HNC.out _ _)))
  refine wpQuiet_nil ?_
  intro W6 hb
  have HS6 := Lib.hid (HS5.out.after hb)
  clear hb HS5 q0 HNC
  go_wp2_with (first
    | (have hq := HS6; clear hq; refine wpList_load_at rfl 24 _ rfl (HS6.out.at_ 2 rfl) 4 (nsV s) rfl _ Tryd.underlying24 rfl (by kernel_rfl) (Nat.le_of_ble_eq_true rfl) rfl ?_)
    | (have hq := HS6; clear hq; refine wpList_load_at rfl 24 _ rfl (HS6.out.at_ 3 rfl) 4 (nsV (durS nodes l lo hi)) rfl _ Tryd.underlying24 rfl (by kernel_rfl) (Nat.le_of_ble_eq_true rfl) rfl ?_))
  refine (not_c _ _ _).mono ?_
  rintro e W7 ⟨rfl, hb⟩
  have HS7 := Lib.hid (HS6.out.after hb)
  clear hb HS6
  go_wp2_with (have hq := HS7; clear hq; refine wpList_neq (by kernel_rfl) 24 _ _ _ rfl rfl rfl (by kernel_rfl) true (HED.out _) ?_)
  refine (turn_c g nodes A c l t0 lo hi _ (HH.out.in_ HS7.out) H4.out HX.out.1 HX.out.2.1 HX.out.2.2 _ g1 s (fun f => notS f s) (takeDo_k g1) (HS7.out.at_ 2 rfl) (fun W f hB => takeDo_c g1 s f W hB)).mono ?_
  rintro e W8 ⟨A2, c2, rfl, hM⟩
  have HS8 := Lib.hid (HS7.out.made hM)
  clear hM HS7
  go_wp2_with fail
  refine (set_no g A2 c2 _ _ HL.out (by have := (turn_prf (d := emptyS) (do_ := fun f => notS f s) HH.out.prf HX.out.2.1).2.2; have := H4.out; omega)).mono ?_
  rintro e W9 ⟨rfl, hb⟩
  have HS9 := Lib.hid (HS8.out.after hb)
  clear hb HS8
  go_wp2_with fail
  go_ret
  exact ⟨rfl, A, c, HS9.out.pfOf 0 1 rfl rfl (by decide)⟩
set_option maxRecDepth 100000 in
set_option maxHeartbeats 8000000 in
theorem take_0 (g : Nat) (nodes : NS) (A : Option Addr) (c : Nat) (l : List (Sp NS)) (t0 lo hi : Int) (s : NS) (w : World) (h : PfOk w g nodes A c l t0) (h4 : l.length ≤ 4096) (hE : spanE t0 lo hi = 0) (hN : notS s nodes = emptyS) (hD : notS s (durS nodes l lo hi) = emptyS) (hL : (turnL 2199023255552 lo hi (fun f => notS f s) [] l).length ≤ 4096) :
    Calls Tryd.prog 43 #[.pointer (some ⟨g, 0, none⟩), nsV s, .int .i64 lo, .int .i64 hi] w (PfPost w g nodes A c l (.int .i64 0) (turnL 2199023255552 lo hi (fun f => notS f s) [] l)) := by
  have HH := Lib.hid h
  have HE := Lib.hid hE
  have H4 := Lib.hid h4
  have HS0 := Lib.hid h.start
  have HDN := Lib.hid (show durN nodes l t0 lo hi = durS nodes l lo hi by unfold durN; rw [hE, if_pos rfl])
  have HX := Lib.hid (spanE_zero hE)
  have HEN := Lib.hid (fun w9 => show (Op.equalIn 10000 24 (nsV (notS s nodes)) (nsV emptyS)).run Tryd.prog w9 = .ok true w9 by rw [eqNs_run]; simp [hN])
  have HED := Lib.hid (fun w9 => show (Op.equalIn 10000 24 (nsV (notS s (durS nodes l lo hi))) (nsV emptyS)).run Tryd.prog w9 = .ok true w9 by rw [eqNs_run]; simp [hD])
  have HL := Lib.hid hL
  clear h h4 hE hN hD hL
  go_enter Tryd.func43, Tryd.ntmps43
  go_wp2_with (have hq := HS0; clear hq; refine wpList_alloc_b rfl (some 5) rfl 24 (nsA s) (by kernel_rfl) ?_; intro g1 W1 hb hB hg; have HS1 := Lib.hid (HS0.out.new hb hB hg); clear hb hB hg HS0)
  refine (during_c g nodes A c l t0 lo hi _ (HH.out.in_ HS1.out)).mono ?_
  rintro e W2 ⟨rfl, hb⟩
  have HS2 := Lib.hid (HS1.out.after hb)
  clear hb HS1
  rw [HE.out, HDN.out]
  go_wp2_with (first
    | (have hq := HS2; clear hq; refine wpList_alloc_b rfl (some 9) rfl 24 z4P (by kernel_rfl) ?_; intro g3 W3 hb hB hg; have HS3 := Lib.hid (HS2.out.new hb hB hg); clear hb hB hg HS2)
    | (have hq := HS3; clear hq; refine wpList_store_at rfl 24 _ _ rfl (HS3.out.at_ 3 rfl) (nsV (durS nodes l lo hi)) rfl rfl (by kernel_rfl) (Nat.le_of_ble_eq_true rfl) (by kernel_rfl) ?_; intro W4 hB hP; have HS4 := Lib.hid (HS3.out.put 3 rfl (new := nsA (durS nodes l lo hi)) hB hP); clear hB hP HS3))
  refine region_b (Ms w _ _) (by kernel_rfl) (by kernel_rfl) HS4.out ?_
  clear HS4
  intro W5 hS
  have q0 := hS.on 0 rfl
  have HS5 := Lib.hid hS
  clear hS
  have HNC := Lib.hid (fun d os => not_c s nodes (grow (redrawn W5 d) os))
  repeat (first
    | (refine wpQuiet_load_b (by kernel_rfl) 24 _ rfl (HS5.out.at_ 2 rfl) 4 (nsV s) rfl _ Tryd.underlying24 rfl (by kernel_rfl) (Nat.le_of_ble_eq_true rfl) rfl ?_)
    | (refine wpQuiet_load_b (by kernel_rfl) 24 _ rfl (HS5.out.at_ 0 rfl) 4 (nsV nodes) rfl _ Tryd.underlying24 rfl (by kernel_rfl) (Nat.le_of_ble_eq_true rfl) rfl ?_)
    | (refine wpQuiet_neq (by kernel_rfl) 24 _ _ _ rfl rfl rfl (by kernel_rfl) true (fun w9 => HEN.out w9) ?_)
    | go_big_quiet_step (with_reducible exact Calls.regrown_of (HNC.out _ _)) | quiet_step (with_reducible exact Calls.regrown_of (HNC.out _ _)))
  refine wpQuiet_nil ?_
  intro W6 hb
  have HS6 := Lib.hid (HS5.out.after hb)
  clear hb HS5 q0 HNC
  go_wp2_with (first
    | (have hq := HS6; clear hq; refine wpList_load_at rfl 24 _ rfl (HS6.out.at_ 2 rfl) 4 (nsV s) rfl _ Tryd.underlying24 rfl (by kernel_rfl) (Nat.le_of_ble_eq_true rfl) rfl ?_)
    | (have hq := HS6; clear hq; refine wpList_load_at rfl 24 _ rfl (HS6.out.at_ 3 rfl) 4 (nsV (durS nodes l lo hi)) rfl _ Tryd.underlying24 rfl (by kernel_rfl) (Nat.le_of_ble_eq_true rfl) rfl ?_))
  refine (not_c _ _ _).mono ?_
  rintro e W7 ⟨rfl, hb⟩
  have HS7 := Lib.hid (HS6.out.after hb)
  clear hb HS6
  go_wp2_with (have hq := HS7; clear hq; refine wpList_neq (by kernel_rfl) 24 _ _ _ rfl rfl rfl (by kernel_rfl) true (HED.out _) ?_)
  refine (turn_c g nodes A c l t0 lo hi _ (HH.out.in_ HS7.out) H4.out HX.out.1 HX.out.2.1 HX.out.2.2 _ g1 s (fun f => notS f s) (takeDo_k g1) (HS7.out.at_ 2 rfl) (fun W f hB => takeDo_c g1 s f W hB)).mono ?_
  rintro e W8 ⟨A2, c2, rfl, hM⟩
  have HS8 := Lib.hid (HS7.out.made hM)
  clear hM HS7
  go_wp2_with fail
  refine (set_yes g nodes A2 A c2 c _ l _ HL.out (HS8.out.at_ 0 rfl)).mono ?_
  rintro e W9 ⟨rfl, hB, hP⟩
  have HS9 := Lib.hid (HS8.out.put 0 rfl hB hP)
  clear hB hP HS8
  go_wp2_with fail
  go_ret
  exact ⟨rfl, A2, c2, HS9.out.pfOf 0 4 rfl rfl (by decide)⟩
/-- What Take answers. -/
def takeE (nodes : NS) (l : List (Sp NS)) (t0 lo hi : Int) (s : NS) : Int :=
  if spanE t0 lo hi = 1 then 1 else if notS s nodes ≠ emptyS then 6 else if notS s (durS nodes l lo hi) ≠ emptyS then 9 else if 4096 < (turnL 2199023255552 lo hi (fun f => notS f s) [] l).length then 5 else 0
def takeL (nodes : NS) (l : List (Sp NS)) (t0 lo hi : Int) (s : NS) : List (Sp NS) := if takeE nodes l t0 lo hi s = 0 then turnL 2199023255552 lo hi (fun f => notS f s) [] l else l
theorem take_c (g : Nat) (nodes : NS) (A : Option Addr) (c : Nat) (l : List (Sp NS)) (t0 lo hi : Int) (s : NS) (w : World) (h : PfOk w g nodes A c l t0) (h4 : l.length ≤ 4096) :
    Calls Tryd.prog 43 #[.pointer (some ⟨g, 0, none⟩), nsV s, .int .i64 lo, .int .i64 hi] w (PfPost w g nodes A c l (.int .i64 (takeE nodes l t0 lo hi s)) (takeL nodes l t0 lo hi s)) := by
  unfold takeL takeE
  rcases spanE_cases t0 lo hi with h1 | h1
  · rw [if_neg (show ¬ spanE t0 lo hi = 1 by omega)]
    by_cases h2 : notS s nodes = emptyS
    · rw [if_neg (show ¬ notS s nodes ≠ emptyS from fun h => h h2)]
      by_cases h3 : notS s (durS nodes l lo hi) = emptyS
      · rw [if_neg (show ¬ notS s (durS nodes l lo hi) ≠ emptyS from fun h => h h3)]
        by_cases h5 : 4096 < (turnL 2199023255552 lo hi (fun f => notS f s) [] l).length
        · rw [if_pos h5, if_neg (by decide)]; exact take_5 g nodes A c l t0 lo hi s w h h4 h1 h2 h3 h5
        · rw [if_neg h5, if_pos rfl]; exact take_0 g nodes A c l t0 lo hi s w h h4 h1 h2 h3 (by omega)
      · rw [if_pos h3, if_neg (by decide)]; exact take_9 g nodes A c l t0 lo hi s w h h4 h1 h2 h3
    · rw [if_pos h2, if_neg (by decide)]; exact take_6 g nodes A c l t0 lo hi s w h h4 h1 h2
  · rw [if_pos h1, if_neg (by decide)]; exact take_1 g nodes A c l t0 lo hi s w h h4 h1
end Go.Proofs.YtkgphbjneaagoaaDoor
