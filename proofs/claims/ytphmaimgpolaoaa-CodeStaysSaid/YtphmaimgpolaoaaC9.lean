/- Code: the reader's Int, In, Text, End. -/
import Derived.Test.YtphmaimgpolaoaaC8
set_option linter.unusedVariables false
namespace Go.Proofs.Ytphmaimgpolaoaa
open Go.RowKit Go.Sort

/-- What stands in memory ahead of a reader's method. -/
structure RdOk (w : World) (r : Nat) (A : Option Addr) (n c p : Nat) (y f : Int) (bs : List UInt8) : Prop where
  blk : Blk w r 58 (rdC A n c p y f)
  reads : ReadsB w A n bs
  le : p ≤ n
  small : n ≤ 140737488355328
  cap : n ≤ c
  off : 0 < n → ∀ a, A = some a → a.block ≠ r
theorem RdOk.turn {w W : World} {r : Nat} {A : Option Addr} {n c p q : Nat} {y f y' f' : Int} {bs : List UInt8} (h : RdOk w r A n c p y f bs) (hM : Ms w (fun k => k = r) [blkR r A n c q y' f'] W) (hq : q ≤ n) : RdOk W r A n c q y' f' bs :=
  ⟨hM.at_ 0 rfl, h.reads.turn hM.turn h.off, hq, h.small, h.cap, h.off⟩
theorem RdOk.after {w W : World} {r : Nat} {A : Option Addr} {n c p : Nat} {y f : Int} {bs : List UInt8} (h : RdOk w r A n c p y f bs) (hb : Below w.heap.size w W) : RdOk W r A n c p y f bs :=
  ⟨h.blk.after hb, h.reads.below hb, h.le, h.small, h.cap, h.off⟩
theorem peek_c (r : Nat) (A : Option Addr) (n c p : Nat) (y f : Int) (bs : List UInt8) (w : World) (h : RdOk w r A n c p y f bs) (v : Int) (q : Nat) (y' f' : Int) (hv : pkR bs p y f = (v, q, y', f')) :
    Calls Try.prog 25 #[.pointer (some ⟨r, 0, none⟩)] w (RdPost w r A n c (.tuple #[.int .i64 v, .int .i64 (q : Nat)]) p y' f') := by
  cases hw : wellB y f
  · unfold pkR at hv
    rw [if_pos hw] at hv
    simp only [Prod.mk.injEq] at hv
    obtain ⟨rfl, rfl, rfl, rfl⟩ := hv
    exact peek_no r A n c p y f w h.blk hw
  · exact peek_yes r A n c p y f bs w h.blk hw h.reads h.le h.small h.cap h.off v q y' f' hv
theorem wrong_any (r : Nat) (A : Option Addr) (n c p : Nat) (y f : Int) (e a : Int) (w : World) (hB : Blk w r 58 (rdC A n c p y f)) :
    Calls Try.prog 28 #[.pointer (some ⟨r, 0, none⟩), .int .i64 e, .int .i64 a] w (RdPost w r A n c (.tuple #[]) p (if wellB y f = true then e else y) (if wellB y f = true then a else f)) := by
  cases hw : wellB y f
  · exact wrong_no r A n c p y f e a w hB hw
  · exact wrong_c r A n c p y f e a w hB hw
/-- Facts of what comes next. -/
theorem pk_le {bs : List UInt8} {p : Nat} {y f : Int} {v : Int} {q : Nat} {y' f' : Int} (hp : p ≤ bs.length) (h : pkR bs p y f = (v, q, y', f')) (hw : wellB y' f' = true) : wellB y f = true ∧ y' = y ∧ f' = f ∧ p < q ∧ q ≤ bs.length ∧ ∃ u, decF 0 0 (bs.drop p) = (0, u, q - p) ∧ v = unzig u := by
  unfold pkR at h
  split at h
  · rename_i h1
    simp only [Prod.mk.injEq] at h
    obtain ⟨_, _, rfl, rfl⟩ := h
    rw [h1] at hw; cases hw
  · rename_i h1
    have hl : (bs.drop p).length = bs.length - p := List.length_drop
    split at h
    · rename_i u k he
      simp only [Prod.mk.injEq] at h
      obtain ⟨rfl, rfl, rfl, rfl⟩ := h
      have hk := decF_kind (bs.drop p) 0 0 (by omega)
      rw [he] at hk
      rcases hk with ⟨v', k', e, h2, h3⟩ | ⟨k', e, _⟩ | e
      · simp only [Prod.mk.injEq, true_and] at e
        obtain ⟨_, rfl⟩ := e
        exact ⟨by simpa using h1, rfl, rfl, by omega, by omega, u, by rw [he, Nat.add_sub_cancel_left], rfl⟩
      · cases e
      · cases e
    · simp only [Prod.mk.injEq] at h
      obtain ⟨_, _, rfl, rfl⟩ := h
      simp [wellB] at hw
    · simp only [Prod.mk.injEq] at h
      obtain ⟨_, _, rfl, rfl⟩ := h
      simp [wellB] at hw
theorem pk_zero {bs : List UInt8} {p : Nat} {y f : Int} {v : Int} {q : Nat} {y' f' : Int} (h : pkR bs p y f = (v, q, y', f')) (hw : wellB y' f' = false) : v = 0 ∧ q = 0 := by
  unfold pkR at h
  split at h
  · simp only [Prod.mk.injEq] at h; exact ⟨h.1.symm, h.2.1.symm⟩
  · rename_i h1
    split at h
    · simp only [Prod.mk.injEq] at h
      obtain ⟨_, _, rfl, rfl⟩ := h
      exact absurd hw h1
    · simp only [Prod.mk.injEq] at h; exact ⟨h.1.symm, h.2.1.symm⟩
    · simp only [Prod.mk.injEq] at h; exact ⟨h.1.symm, h.2.1.symm⟩

/-! ### Int -/
/-- The number, the place, the fault. -/
def intR (bs : List UInt8) (p : Nat) (y f : Int) : Int × Nat × Int × Int :=
  let t := pkR bs p y f
  if wellB t.2.2.1 t.2.2.2 = true then t else (0, p, t.2.2.1, t.2.2.2)
set_option maxRecDepth 100000 in
set_option maxHeartbeats 4000000 in
theorem rInt_c (r : Nat) (A : Option Addr) (n c p : Nat) (y f : Int) (bs : List UInt8) (w : World) (h : RdOk w r A n c p y f bs) (v : Int) (q : Nat) (y' f' : Int) (hv : intR bs p y f = (v, q, y', f')) :
    Calls Try.prog 11 #[.pointer (some ⟨r, 0, none⟩)] w (RdPost w r A n c (.int .i64 v) q y' f') := by
  have HS0 := Lib.hid (Ms.start (o := blkR r A n c p y f) h.blk)
  obtain ⟨v1, q1, y1, f1, ht⟩ : ∃ v1 q1 y1 f1, pkR bs p y f = (v1, q1, y1, f1) := ⟨_, _, _, _, rfl⟩
  have HP := Lib.hid (peek_c r A n c p y f bs w h v1 q1 y1 f1 ht)
  unfold intR at hv
  rw [ht] at hv
  simp only at hv
  have hz := pk_zero ht
  clear h ht
  cases hw : wellB y1 f1
  · rw [hw, if_neg (by simp)] at hv
    obtain ⟨rfl, rfl⟩ := hz hw
    simp only [Prod.mk.injEq] at hv
    obtain ⟨rfl, rfl, rfl, rfl⟩ := hv
    clear hz
    go_enter Try.func11, Try.ntmps11
    go_wp2_with fail
    refine HP.out.mono ?_
    rintro e W1 ⟨rfl, hM⟩
    have HS1 := Lib.hid (HS0.out.call 0 rfl hM)
    clear hM HS0 HP
    go_wp2_with fail
    refine (well_c r A n c p y1 f1 _ (HS1.out.at_ 0 rfl)).mono ?_
    rintro e w' ⟨rfl, rfl⟩
    go_wp2
    go_ret
    exact ⟨rfl, HS1.out⟩
  · rw [hw, if_pos rfl] at hv
    simp only [Prod.mk.injEq] at hv
    obtain ⟨rfl, rfl, rfl, rfl⟩ := hv
    clear hz
    go_enter Try.func11, Try.ntmps11
    go_wp2_with fail
    refine HP.out.mono ?_
    rintro e W1 ⟨rfl, hM⟩
    have HS1 := Lib.hid (HS0.out.call 0 rfl hM)
    clear hM HS0 HP
    go_wp2_with fail
    refine (well_c r A n c p y1 f1 _ (HS1.out.at_ 0 rfl)).mono ?_
    rintro e w' ⟨rfl, rfl⟩
    go_wp2_with (refine wpList_store_at rfl 3 _ _ rfl (HS1.out.at_ 0 rfl) (.int .i64 (q1 : Nat)) rfl rfl (by kernel_rfl) (Nat.le_of_ble_eq_true rfl) (by kernel_rfl) ?_; intro W5 hB hP; have HS5 := Lib.hid (HS1.out.put 0 rfl (new := rdC A n c q1 y1 f1) hB hP); clear hB hP HS1)
    go_ret
    exact ⟨rfl, HS5.out⟩

/-! ### In -/
def inR (bs : List UInt8) (p : Nat) (y f lo hi : Int) : Int × Nat × Int × Int :=
  let t := pkR bs p y f
  if wellB t.2.2.1 t.2.2.2 = true then (if t.1 < lo ∨ hi < t.1 then (0, p, 5, (p : Int)) else t) else (0, p, t.2.2.1, t.2.2.2)
set_option maxRecDepth 100000 in
set_option maxHeartbeats 4000000 in
theorem rIn_c (r : Nat) (A : Option Addr) (n c p : Nat) (y f lo hi : Int) (bs : List UInt8) (w : World) (h : RdOk w r A n c p y f bs) (v : Int) (q : Nat) (y' f' : Int) (hv : inR bs p y f lo hi = (v, q, y', f')) :
    Calls Try.prog 21 #[.pointer (some ⟨r, 0, none⟩), .int .i64 lo, .int .i64 hi] w (RdPost w r A n c (.int .i64 v) q y' f') := by
  have HS0 := Lib.hid (Ms.start (o := blkR r A n c p y f) h.blk)
  obtain ⟨v1, q1, y1, f1, ht⟩ : ∃ v1 q1 y1 f1, pkR bs p y f = (v1, q1, y1, f1) := ⟨_, _, _, _, rfl⟩
  have HP := Lib.hid (peek_c r A n c p y f bs w h v1 q1 y1 f1 ht)
  unfold inR at hv
  rw [ht] at hv
  simp only at hv
  clear h ht
  cases hw : wellB y1 f1
  · rw [hw, if_neg (by simp)] at hv
    simp only [Prod.mk.injEq] at hv
    obtain ⟨rfl, rfl, rfl, rfl⟩ := hv
    go_enter Try.func21, Try.ntmps21
    go_wp2_with fail
    refine HP.out.mono ?_
    rintro e W1 ⟨rfl, hM⟩
    have HS1 := Lib.hid (HS0.out.call 0 rfl hM)
    clear hM HS0 HP
    go_wp2_with ((with_reducible refine (well_c r A n c p y1 f1 _ (HS1.out.at_ 0 rfl)).mono ?_); rintro e w' ⟨rfl, rfl⟩)
    go_ret
    exact ⟨rfl, HS1.out⟩
  · rw [hw, if_pos rfl] at hv
    by_cases hb : v1 < lo ∨ hi < v1
    · rw [if_pos hb] at hv
      simp only [Prod.mk.injEq] at hv
      obtain ⟨rfl, rfl, rfl, rfl⟩ := hv
      have hnw : wellB 5 (p : Int) = false := by simp [wellB]
      by_cases hlo : v1 < lo
      all_goals
        first
          | have hhi : hi < v1 := by omega
          | skip
        clear hb
        go_enter Try.func21, Try.ntmps21
        go_wp2_with fail
        refine HP.out.mono ?_
        rintro e W1 ⟨rfl, hM⟩
        have HS1 := Lib.hid (HS0.out.call 0 rfl hM)
        clear hM HS0 HP
        obtain ⟨r1, r2, r3⟩ := HS1.out.rules 0 rfl
        go_wp2_with fail
        refine (well_c r A n c p y1 f1 _ (HS1.out.at_ 0 rfl)).mono ?_
        rintro e w' ⟨rfl, rfl⟩
        go_wp2_with fail
        refine (wrong_c r A n c p y1 f1 5 (p : Int) _ (HS1.out.at_ 0 rfl) hw).mono ?_
        rintro e W2 ⟨rfl, hM⟩
        have HS2 := Lib.hid (HS1.out.call 0 rfl hM)
        clear hM HS1 r1 r2 r3
        go_wp2_with fail
        refine (well_c r A n c p 5 (p : Int) _ (HS2.out.at_ 0 rfl)).mono ?_
        rintro e w' ⟨rfl, rfl⟩
        go_wp2
        go_ret
        exact ⟨rfl, HS2.out⟩
    · rw [if_neg hb] at hv
      simp only [Prod.mk.injEq] at hv
      obtain ⟨rfl, rfl, rfl, rfl⟩ := hv
      have hlo : ¬ v1 < lo := by omega
      have hhi : ¬ hi < v1 := by omega
      clear hb
      go_enter Try.func21, Try.ntmps21
      go_wp2_with fail
      refine HP.out.mono ?_
      rintro e W1 ⟨rfl, hM⟩
      have HS1 := Lib.hid (HS0.out.call 0 rfl hM)
      clear hM HS0 HP
      go_wp2_with (first
        | ((with_reducible refine (well_c r A n c p y1 f1 _ (HS1.out.at_ 0 rfl)).mono ?_); rintro e w' ⟨rfl, rfl⟩)
        | (refine wpList_store_at rfl 3 _ _ rfl (HS1.out.at_ 0 rfl) (.int .i64 (q1 : Nat)) rfl rfl (by kernel_rfl) (Nat.le_of_ble_eq_true rfl) (by kernel_rfl) ?_; intro W5 hB hP; have HS5 := Lib.hid (HS1.out.put 0 rfl (new := rdC A n c q1 y1 f1) hB hP); clear hB hP HS1))
      go_ret
      exact ⟨rfl, HS5.out⟩
end Go.Proofs.Ytphmaimgpolaoaa
