/- Code: the reader's Text, End. -/
import Derived.Test.YtphmaimgpolaoaaC9
set_option linter.unusedVariables false
namespace Go.Proofs.Ytphmaimgpolaoaa
open Go.RowKit Go.Sort

theorem ReadsB.sub {w : World} {A : Option Addr} {n : Nat} {bs : List UInt8} (h : ReadsB w A n bs) (q m c : Nat) (hq : q + m ≤ n) (hc : n ≤ c) : ReadsB w (if c = q then A else Option.map (fun x => x.add q) A) m ((bs.drop q).take m) := by
  have hl := h.1
  refine ⟨by simp; omega, by have := h.2.1; omega, fun hm => ?_⟩
  obtain ⟨ad, e, hcell⟩ := h.2.2 (by omega)
  rw [if_neg (by omega), e]
  refine ⟨ad.add q, rfl, fun j hj => ?_⟩
  rw [add_add', hcell (q + j) (by omega), List.getD_eq_getElem?_getD, List.getD_eq_getElem?_getD, List.getElem?_take, if_pos hj, List.getElem?_drop]
def textR (bs : List UInt8) (p : Nat) (y f most : Int) : List UInt8 × Nat × Int × Int :=
  let t := pkR bs p y f
  if wellB t.2.2.1 t.2.2.2 = true then
    if t.1 < 0 ∨ most < t.1 then ([], p, 5, (p : Int))
    else if (bs.length : Int) - (t.2.1 : Int) < t.1 then ([], p, 4, (bs.length : Int))
    else ((bs.drop t.2.1).take t.1.toNat, t.2.1 + t.1.toNat, t.2.2.1, t.2.2.2)
  else ([], p, t.2.2.1, t.2.2.2)
theorem str_nil : strOf [] = { data := #[] } := rfl
set_option maxRecDepth 100000 in
set_option maxHeartbeats 4000000 in
theorem rText_no (r : Nat) (A : Option Addr) (n c p : Nat) (y f most : Int) (bs : List UInt8) (w : World) (h : RdOk w r A n c p y f bs) (v1 : Int) (q1 : Nat) (y1 f1 : Int) (ht : pkR bs p y f = (v1, q1, y1, f1)) (hw : wellB y1 f1 = false) :
    Calls Try.prog 22 #[.pointer (some ⟨r, 0, none⟩), .int .i64 most] w (RdPost w r A n c (.string (strOf [])) p y1 f1) := by
  have HS0 := Lib.hid (Ms.start (o := blkR r A n c p y f) h.blk)
  have HP := Lib.hid (peek_c r A n c p y f bs w h v1 q1 y1 f1 ht)
  clear h ht
  go_enter Try.func22, Try.ntmps22
  go_wp2_with fail
  refine HP.out.mono ?_
  rintro e W1 ⟨rfl, hM⟩
  have HS1 := Lib.hid (HS0.out.call 0 rfl hM)
  clear hM HS0 HP
  go_wp2_with ((with_reducible refine (well_c r A n c p y1 f1 _ (HS1.out.at_ 0 rfl)).mono ?_); rintro e w' ⟨rfl, rfl⟩)
  go_ret
  exact ⟨rfl, HS1.out⟩
set_option maxRecDepth 100000 in
set_option maxHeartbeats 4000000 in
theorem rText_many (r : Nat) (A : Option Addr) (n c p : Nat) (y f most : Int) (bs : List UInt8) (w : World) (h : RdOk w r A n c p y f bs) (v1 : Int) (q1 : Nat) (y1 f1 : Int) (ht : pkR bs p y f = (v1, q1, y1, f1)) (hw : wellB y1 f1 = true) (hv : v1 < 0 ∨ most < v1) :
    Calls Try.prog 22 #[.pointer (some ⟨r, 0, none⟩), .int .i64 most] w (RdPost w r A n c (.string (strOf [])) p 5 (p : Int)) := by
  have HS0 := Lib.hid (Ms.start (o := blkR r A n c p y f) h.blk)
  have HP := Lib.hid (peek_c r A n c p y f bs w h v1 q1 y1 f1 ht)
  clear h ht
  by_cases hlo : v1 < 0
  all_goals
    first
      | have hhi : most < v1 := by omega
      | skip
    clear hv
    go_enter Try.func22, Try.ntmps22
    go_wp2_with fail
    refine HP.out.mono ?_
    rintro e W1 ⟨rfl, hM⟩
    have HS1 := Lib.hid (HS0.out.call 0 rfl hM)
    clear hM HS0 HP
    obtain ⟨r1, r2, r3⟩ := HS1.out.rules 0 rfl
    go_wp2_with fail
    refine (well_c r A n c p y1 f1 _ (HS1.out.at_ 0 rfl)).mono ?_
    rintro e w' ⟨rfl, rfl⟩
    go_wp2_with fail
    refine (wrong_c r A n c p y1 f1 5 (p : Int) _ (HS1.out.at_ 0 rfl) hw).mono ?_
    rintro e W2 ⟨rfl, hM⟩
    have HS2 := Lib.hid (HS1.out.call 0 rfl hM)
    clear hM HS1 r1 r2 r3
    go_wp2
    go_ret
    exact ⟨rfl, HS2.out⟩
set_option maxRecDepth 100000 in
set_option maxHeartbeats 4000000 in
theorem rText_end (r : Nat) (A : Option Addr) (n c p : Nat) (y f most : Int) (bs : List UInt8) (w : World) (h : RdOk w r A n c p y f bs) (v1 : Int) (q1 : Nat) (y1 f1 : Int) (ht : pkR bs p y f = (v1, q1, y1, f1)) (hw : wellB y1 f1 = true) (hv : ¬ v1 < 0) (hv2 : ¬ most < v1) (hv3 : (n : Int) - (q1 : Int) < v1) (hq : q1 ≤ n) :
    Calls Try.prog 22 #[.pointer (some ⟨r, 0, none⟩), .int .i64 most] w (RdPost w r A n c (.string (strOf [])) p 4 (n : Int)) := by
  have HS0 := Lib.hid (Ms.start (o := blkR r A n c p y f) h.blk)
  have HP := Lib.hid (peek_c r A n c p y f bs w h v1 q1 y1 f1 ht)
  have hww : IntKind.i64.wrap ((n : Int) - (q1 : Int)) = (n : Int) - (q1 : Int) := by have := h.small; rw [IntKind.wrap_i64]; omega
  have hnI : (n : Int) ≤ 140737488355328 := by have := h.small; omega
  have hqI : (q1 : Int) ≤ (n : Int) := by omega
  clear h ht
  go_enter Try.func22, Try.ntmps22
  go_wp2_with fail
  refine HP.out.mono ?_
  rintro e W1 ⟨rfl, hM⟩
  have HS1 := Lib.hid (HS0.out.call 0 rfl hM)
  clear hM HS0 HP
  obtain ⟨r1, r2, r3⟩ := HS1.out.rules 0 rfl
  go_wp2_with fail
  refine (well_c r A n c p y1 f1 _ (HS1.out.at_ 0 rfl)).mono ?_
  rintro e w' ⟨rfl, rfl⟩
  go_wp2_with fail
  refine (wrong_c r A n c p y1 f1 4 (n : Int) _ (HS1.out.at_ 0 rfl) hw).mono ?_
  rintro e W2 ⟨rfl, hM⟩
  have HS2 := Lib.hid (HS1.out.call 0 rfl hM)
  clear hM HS1 r1 r2 r3
  go_wp2
  go_ret
  exact ⟨rfl, HS2.out⟩
set_option maxRecDepth 100000 in
set_option maxHeartbeats 4000000 in
theorem rText_yes (r : Nat) (A : Option Addr) (n c p : Nat) (y f most : Int) (bs : List UInt8) (w : World) (h : RdOk w r A n c p y f bs) (m : Nat) (q1 : Nat) (y1 f1 : Int) (ht : pkR bs p y f = ((m : Int), q1, y1, f1)) (hw : wellB y1 f1 = true) (hv2 : ¬ most < (m : Int)) (hv3 : q1 + m ≤ n) :
    Calls Try.prog 22 #[.pointer (some ⟨r, 0, none⟩), .int .i64 most] w (RdPost w r A n c (.string (strOf ((bs.drop q1).take m))) (q1 + m) y1 f1) := by
  have HS0 := Lib.hid (Ms.start (o := blkR r A n c p y f) h.blk)
  have HP := Lib.hid (peek_c r A n c p y f bs w h m q1 y1 f1 ht)
  have hww : IntKind.i64.wrap ((n : Int) - (q1 : Int)) = (n : Int) - (q1 : Int) := by have := h.small; rw [IntKind.wrap_i64]; omega
  have hnI : (n : Int) ≤ 140737488355328 := by have := h.small; omega
  have hqI : (q1 : Int) + (m : Int) ≤ (n : Int) := by omega
  have hqI2 : ¬ (n : Int) - (q1 : Int) < (m : Int) := by omega
  have hcI : (n : Int) ≤ (c : Int) := by have := h.cap; omega
  have HR := Lib.hid h.reads
  have HC := Lib.hid h.cap
  have HO := Lib.hid h.off
  clear h ht
  go_enter Try.func22, Try.ntmps22
  go_wp2_with fail
  refine HP.out.mono ?_
  rintro e W1 ⟨rfl, hM⟩
  have HR1 := Lib.hid (HR.out.turn hM.turn HO.out)
  have HS1 := Lib.hid (HS0.out.call 0 rfl hM)
  clear hM HS0 HP HR
  obtain ⟨r1, r2, r3⟩ := HS1.out.rules 0 rfl
  go_wp2_with fail
  refine (well_c r A n c p y1 f1 _ (HS1.out.at_ 0 rfl)).mono ?_
  rintro e w' ⟨rfl, rfl⟩
  go_wp2_with (refine wpList_store_at rfl 3 _ _ rfl (HS1.out.at_ 0 rfl) (.int .i64 ((q1 : Int) + (m : Int))) rfl rfl (by kernel_rfl) (Nat.le_of_ble_eq_true rfl) (by kernel_rfl) ?_; intro W5 hB hP; have HR5 := Lib.hid (HR1.out.turn (Turn.of_put (ex := fun k => k = r) hP rfl) HO.out); have HS5 := Lib.hid (HS1.out.put 0 rfl (new := #[.slice A n c, .int .i64 ((q1 : Int) + (m : Int)), .int .i64 y1, .int .i64 f1]) hB hP); clear hB hP HS1 HR1 r1 r2 r3)
  obtain ⟨r1, r2, r3⟩ := HS5.out.rules 0 rfl
  have hcv : ∀ k, (convert 22 9 (.slice (if c = q1 then A else Option.map (fun x => x.add q1) A) m (c - q1))).run Try.prog (W5.drewN k) = .ok (.string (strOf ((bs.drop q1).take m))) (W5.drewN k) := fun k =>
    run_bytes_text ((HR5.out.sub q1 m c hv3 HC.out).below (below_drewN (Below.refl _ _) k)) 22 9 5 Try.underlying22 Try.underlying5 Try.underlying9
  refine wp_region_quiet_lit (by kernel_rfl) (by kernel_rfl) ?_
  repeat (first | go_big_quiet_step (fail) | quiet_step (fail) | (refine wpQuiet_step (fun K hK => ?_); go_simp; refine hK _ ?_; clear hK K))
  refine wpQuiet_nil ?_
  rintro w6 ⟨nq, rfl⟩
  obtain ⟨D, hD⟩ : ∃ D, D = (if c = q1 then A else Option.map (fun x => x.add q1) A) := ⟨_, rfl⟩
  rw [← hD]
  clear hD hcv
  go_wp2
  go_ret
  have hE : ((q1 : Int) + (m : Int)) = ((q1 + m : Nat) : Int) := by omega
  rw [hE] at HS5
  exact ⟨rfl, HS5.out.drewN _⟩

/-! ### End -/
def endR (p n : Nat) (y f : Int) : Int × Int := if p < n ∧ wellB y f = true then (3, (p : Int)) else (y, f)
set_option maxRecDepth 100000 in
set_option maxHeartbeats 4000000 in
theorem rEnd_c (r : Nat) (A : Option Addr) (n c p : Nat) (y f : Int) (bs : List UInt8) (w : World) (h : RdOk w r A n c p y f bs) :
    Calls Try.prog 24 #[.pointer (some ⟨r, 0, none⟩)] w (RdPost w r A n c (fltV (endR p n y f).1 (endR p n y f).2) p (endR p n y f).1 (endR p n y f).2) := by
  have HS0 := Lib.hid (Ms.start (o := blkR r A n c p y f) h.blk)
  have HL := Lib.hid (fun w' hB => left_c r A n c p y f w' hB h.le (by have := h.small; omega))
  have hpn := h.le
  obtain ⟨y', f', he⟩ : ∃ y' f', endR p n y f = (y', f') := ⟨_, _, rfl⟩
  rw [he]
  unfold endR at he
  clear h
  by_cases hlt : p < n
  · have hlI : (0 : Int) < ((n - p : Nat) : Int) := by omega
    have HW := Lib.hid (fun w' hB => wrong_any r A n c p y f 3 (p : Int) w' hB)
    have e2 : (if wellB y f = true then (3 : Int) else y) = y' ∧ (if wellB y f = true then (p : Int) else f) = f' := by
      cases hw : wellB y f
      · rw [hw, if_neg (by simp)] at he; simp only [Prod.mk.injEq] at he; simpa using he
      · rw [hw, if_pos ⟨hlt, rfl⟩] at he; simp only [Prod.mk.injEq] at he; simpa using he
    rw [e2.1, e2.2] at HW
    clear e2 he
    go_enter Try.func24, Try.ntmps24
    go_wp2_with (refine wpList_alloc_b rfl (some 2) rfl 30 (fltA 0 0) (by kernel_rfl) ?_; intro g1 W1 hb hB hg; have HS1 := Lib.hid (HS0.out.new hb hB hg); clear hb hB hg HS0)
    refine (HL.out _ (HS1.out.at_ 0 rfl)).mono ?_
    rintro e W2 ⟨rfl, hb⟩
    have HS2 := Lib.hid (HS1.out.after hb)
    clear hb HS1 HL
    obtain ⟨r1, r2, r3⟩ := HS2.out.rules 0 rfl
    go_wp2_with fail
    refine (HW.out _ (HS2.out.at_ 0 rfl)).mono ?_
    rintro e W3 ⟨rfl, hM⟩
    have HS3 := Lib.hid (HS2.out.call 0 rfl hM)
    clear hM HS2 r1 r2 r3 HW
    go_wp2_with fail
    refine (fault_c r A n c p y' f' _ (HS3.out.at_ 0 rfl)).mono ?_
    rintro e W4 ⟨rfl, hb⟩
    have HS4 := Lib.hid (HS3.out.after hb)
    clear hb HS3
    go_wp2_with (refine wpList_store_at rfl 30 _ _ rfl (HS4.out.at_ 1 rfl) (fltV y' f') rfl rfl (by kernel_rfl) (Nat.le_of_ble_eq_true rfl) (by kernel_rfl) ?_; intro W5 hB hP; have HS5 := Lib.hid (HS4.out.put 1 rfl (new := fltA y' f') hB hP); clear hB hP HS4)
    exact post_cell rfl rfl (HS5.out.at_ 1 rfl) Try.underlying30 rfl (by kernel_rfl) rfl ⟨rfl, Ms.cut (l := [blkR r A n c p y' f']) (k := [.blk g1 30 (fltA y' f')]) HS5.out⟩
  · have hlI : ((n - p : Nat) : Int) = 0 := by omega
    rw [if_neg (fun h => hlt h.1)] at he
    simp only [Prod.mk.injEq] at he
    obtain ⟨rfl, rfl⟩ := he
    rw [hlI] at HL
    clear hlI
    go_enter Try.func24, Try.ntmps24
    go_wp2_with (refine wpList_alloc_b rfl (some 2) rfl 30 (fltA 0 0) (by kernel_rfl) ?_; intro g1 W1 hb hB hg; have HS1 := Lib.hid (HS0.out.new hb hB hg); clear hb hB hg HS0)
    refine (HL.out _ (HS1.out.at_ 0 rfl)).mono ?_
    rintro e W2 ⟨rfl, hb⟩
    have HS2 := Lib.hid (HS1.out.after hb)
    clear hb HS1 HL
    go_wp2_with fail
    refine (fault_c r A n c p y f _ (HS2.out.at_ 0 rfl)).mono ?_
    rintro e W4 ⟨rfl, hb⟩
    have HS4 := Lib.hid (HS2.out.after hb)
    clear hb HS2
    go_wp2_with (refine wpList_store_at rfl 30 _ _ rfl (HS4.out.at_ 1 rfl) (fltV y f) rfl rfl (by kernel_rfl) (Nat.le_of_ble_eq_true rfl) (by kernel_rfl) ?_; intro W5 hB hP; have HS5 := Lib.hid (HS4.out.put 1 rfl (new := fltA y f) hB hP); clear hB hP HS4)
    exact post_cell rfl rfl (HS5.out.at_ 1 rfl) Try.underlying30 rfl (by kernel_rfl) rfl ⟨rfl, Ms.cut (l := [blkR r A n c p y f]) (k := [.blk g1 30 (fltA y f)]) HS5.out⟩
/-- Text, in one. -/
theorem rText_c (r : Nat) (A : Option Addr) (n c p : Nat) (y f most : Int) (bs : List UInt8) (w : World) (h : RdOk w r A n c p y f bs) (s : List UInt8) (q : Nat) (y' f' : Int) (hv : textR bs p y f most = (s, q, y', f')) :
    Calls Try.prog 22 #[.pointer (some ⟨r, 0, none⟩), .int .i64 most] w (RdPost w r A n c (.string (strOf s)) q y' f') := by
  obtain ⟨v1, q1, y1, f1, ht⟩ : ∃ v1 q1 y1 f1, pkR bs p y f = (v1, q1, y1, f1) := ⟨_, _, _, _, rfl⟩
  have hl := h.reads.1
  unfold textR at hv
  rw [ht] at hv
  simp only at hv
  cases hw : wellB y1 f1
  · rw [hw, if_neg (by simp)] at hv
    simp only [Prod.mk.injEq] at hv
    obtain ⟨rfl, rfl, rfl, rfl⟩ := hv
    exact rText_no r A n c p y f most bs w h v1 q1 y1 f1 ht hw
  · rw [hw, if_pos rfl] at hv
    obtain ⟨_, _, _, hpq, hq, _⟩ := pk_le (by have := h.le; omega) ht hw
    by_cases hb : v1 < 0 ∨ most < v1
    · rw [if_pos hb] at hv
      simp only [Prod.mk.injEq] at hv
      obtain ⟨rfl, rfl, rfl, rfl⟩ := hv
      exact rText_many r A n c p y f most bs w h v1 q1 y1 f1 ht hw hb
    · rw [if_neg hb] at hv
      by_cases hb2 : (bs.length : Int) - (q1 : Int) < v1
      · rw [if_pos hb2] at hv
        simp only [Prod.mk.injEq] at hv
        obtain ⟨rfl, rfl, rfl, rfl⟩ := hv
        rw [hl] at hb2 ⊢
        exact rText_end r A n c p y f most bs w h v1 q1 y1 f1 ht hw (by omega) (by omega) hb2 (by omega)
      · rw [if_neg hb2] at hv
        simp only [Prod.mk.injEq] at hv
        obtain ⟨rfl, rfl, rfl, rfl⟩ := hv
        obtain ⟨m, rfl⟩ := Int.eq_ofNat_of_zero_le (show 0 ≤ v1 by omega)
        exact rText_yes r A n c p y f most bs w h m q1 y1 f1 ht hw (by omega) (by omega)
end Go.Proofs.Ytphmaimgpolaoaa
