/- Code: the reader's Nodes. -/
import Derived.Test.YtphmaimgpolaoaaCa
set_option linter.unusedVariables false
namespace Go.Proofs.Ytphmaimgpolaoaa
open Go.RowKit Go.Sort

def wordsA (f : Nat → Nat) : Array Value := #[.int .u64 (f 0 : Nat), .int .u64 (f 1 : Nat), .int .u64 (f 2 : Nat), .int .u64 (f 3 : Nat)]
theorem wordsA_at (f : Nat → Nat) (i : Nat) (h : i < 4) : (wordsA f)[i]? = some (.int .u64 (f i : Nat)) := by
  have h : i = 0 ∨ i = 1 ∨ i = 2 ∨ i = 3 := by omega
  rcases h with rfl | rfl | rfl | rfl <;> rfl
def upd (f : Nat → Nat) (i x : Nat) : Nat → Nat := fun j => if j = i then x else f j
theorem wordsA_set (f : Nat → Nat) (i x : Nat) (h : i < 4) : (wordsA f).setIfInBounds i (.int .u64 (x : Nat)) = wordsA (upd f i x) := by
  have h : i = 0 ∨ i = 1 ∨ i = 2 ∨ i = 3 := by omega
  rcases h with rfl | rfl | rfl | rfl <;> rfl
/-- The word that k bytes spell. -/
def partW (l : List UInt8) : Nat → Nat
  | 0 => 0
  | k + 1 => partW l k + (l.getD k 0).toNat * 2 ^ (8 * k)
theorem partW_lt (l : List UInt8) : ∀ k, partW l k < 2 ^ (8 * k)
  | 0 => by show 0 < 1; omega
  | k + 1 => by
    have h := partW_lt l k
    have hb := UInt8.toNat_lt (l.getD k 0)
    have e : (2 : Nat) ^ (8 * (k + 1)) = 256 * 2 ^ (8 * k) := by rw [Nat.mul_add, Nat.pow_add, Nat.mul_comm]
    rw [e]
    show partW l k + _ < _
    have h2 : (l.getD k 0).toNat * 2 ^ (8 * k) ≤ 255 * 2 ^ (8 * k) := Nat.mul_le_mul_right _ (by omega)
    omega
/-- The i-th word of the bytes from p on. -/
def wordR (bs : List UInt8) (p i : Nat) : Nat := partW (bs.drop (p + 8 * i)) 8
/-- The words behind i words, and k bytes of the next one. -/
def midW (bs : List UInt8) (p i k : Nat) : Nat → Nat := fun j => if j < i then wordR bs p j else if j = i then partW (bs.drop (p + 8 * i)) k else 0
theorem midW_zero (bs : List UInt8) (p : Nat) : midW bs p 0 0 = fun _ => 0 := by
  funext j
  unfold midW
  rw [if_neg (by omega)]
  split <;> rfl
theorem midW_next (bs : List UInt8) (p i : Nat) : midW bs p i 8 = midW bs p (i + 1) 0 := by
  funext j
  unfold midW
  by_cases h1 : j < i
  · rw [if_pos h1, if_pos (by omega)]
  · rw [if_neg h1]
    by_cases h2 : j = i
    · subst h2
      rw [if_pos rfl, if_pos (by omega)]
      rfl
    · rw [if_neg h2, if_neg (by omega)]
      split <;> rfl
theorem midW_upd (bs : List UInt8) (p i k : Nat) : upd (midW bs p i k) i (partW (bs.drop (p + 8 * i)) (k + 1)) = midW bs p i (k + 1) := by
  funext j
  unfold upd midW
  by_cases h2 : j = i
  · subst h2
    rw [if_pos rfl, if_neg (by omega), if_pos rfl]
  · rw [if_neg h2]
    split
    · rfl
    · rfl
theorem midW_four (bs : List UInt8) (p : Nat) : wordsA (midW bs p 4 0) = #[.int .u64 (wordR bs p 0 : Nat), .int .u64 (wordR bs p 1 : Nat), .int .u64 (wordR bs p 2 : Nat), .int .u64 (wordR bs p 3 : Nat)] := by
  simp [wordsA, midW]
abbrev z4 : Array Value := #[.int .u64 0, .int .u64 0, .int .u64 0, .int .u64 0]
set_option maxRecDepth 100000 in
set_option maxHeartbeats 4000000 in
theorem rNodes_no (r : Nat) (A : Option Addr) (n c p : Nat) (y f : Int) (bs : List UInt8) (w : World) (h : RdOk w r A n c p y f bs) (hw : wellB y f = false) :
    Calls Try.prog 23 #[.pointer (some ⟨r, 0, none⟩)] w (RdPost w r A n c (ndV 0 0 0 0) p y f) := by
  have HS0 := Lib.hid (Ms.start (o := blkR r A n c p y f) h.blk)
  clear h
  go_enter Try.func23, Try.ntmps23
  go_wp2_with (first
    | (refine wpList_alloc_b rfl (some 2) rfl 41 z4 (by kernel_rfl) ?_; intro g1 W1 hb hB hg; have HS1 := Lib.hid (HS0.out.new hb hB hg); clear hb hB hg HS0)
    | (refine wpList_alloc_b rfl (some 3) rfl 41 z4 (by kernel_rfl) ?_; intro g2 W2 hb hB hg; have HS2 := Lib.hid (HS1.out.new hb hB hg); clear hb hB hg HS1))
  refine (well_c r A n c p y f _ (HS2.out.at_ 0 rfl)).mono ?_
  rintro e w' ⟨rfl, rfl⟩
  go_wp2_with (first
    | (refine wpList_load_at rfl 41 _ rfl (HS2.out.at_ 2 rfl) 4 (ndV 0 0 0 0) rfl _ Try.underlying41 rfl (by kernel_rfl) (Nat.le_of_ble_eq_true rfl) rfl ?_)
    | (refine wpList_store_at rfl 41 _ _ rfl (HS2.out.at_ 1 rfl) (ndV 0 0 0 0) rfl rfl (by kernel_rfl) (Nat.le_of_ble_eq_true rfl) (by kernel_rfl) ?_; intro W5 hB hP; have HS5 := Lib.hid (HS2.out.put 1 rfl (new := z4) hB hP); clear hB hP HS2))
  exact post_cell rfl rfl (HS5.out.at_ 1 rfl) Try.underlying41 rfl (by kernel_rfl) rfl ⟨rfl, Ms.cut (l := [blkR r A n c p y f]) (k := [.blk g1 41 z4, .blk g2 41 z4]) HS5.out⟩
set_option maxRecDepth 100000 in
set_option maxHeartbeats 4000000 in
theorem rNodes_end (r : Nat) (A : Option Addr) (n c p : Nat) (y f : Int) (bs : List UInt8) (w : World) (h : RdOk w r A n c p y f bs) (hw : wellB y f = true) (hs : n - p < 32) :
    Calls Try.prog 23 #[.pointer (some ⟨r, 0, none⟩)] w (RdPost w r A n c (ndV 0 0 0 0) p 4 (n : Int)) := by
  have HS0 := Lib.hid (Ms.start (o := blkR r A n c p y f) h.blk)
  have HL := Lib.hid (fun w' hB => left_c r A n c p y f w' hB h.le (by have := h.small; omega))
  have hI : ((n - p : Nat) : Int) < 32 := by omega
  clear h
  go_enter Try.func23, Try.ntmps23
  go_wp2_with (first
    | (refine wpList_alloc_b rfl (some 2) rfl 41 z4 (by kernel_rfl) ?_; intro g1 W1 hb hB hg; have HS1 := Lib.hid (HS0.out.new hb hB hg); clear hb hB hg HS0)
    | (refine wpList_alloc_b rfl (some 3) rfl 41 z4 (by kernel_rfl) ?_; intro g2 W2 hb hB hg; have HS2 := Lib.hid (HS1.out.new hb hB hg); clear hb hB hg HS1))
  refine (well_c r A n c p y f _ (HS2.out.at_ 0 rfl)).mono ?_
  rintro e w' ⟨rfl, rfl⟩
  go_wp2_with fail
  refine (HL.out _ (HS2.out.at_ 0 rfl)).mono ?_
  rintro e W3 ⟨rfl, hb⟩
  have HS3 := Lib.hid (HS2.out.after hb)
  clear hb HS2 HL
  obtain ⟨r1, r2, r3⟩ := HS3.out.rules 0 rfl
  go_wp2_with fail
  refine (wrong_c r A n c p y f 4 (n : Int) _ (HS3.out.at_ 0 rfl) hw).mono ?_
  rintro e W4 ⟨rfl, hM⟩
  have HS4 := Lib.hid (HS3.out.call 0 rfl hM)
  clear hM HS3 r1 r2 r3
  go_wp2_with (first
    | (refine wpList_load_at rfl 41 _ rfl (HS4.out.at_ 2 rfl) 4 (ndV 0 0 0 0) rfl _ Try.underlying41 rfl (by kernel_rfl) (Nat.le_of_ble_eq_true rfl) rfl ?_)
    | (refine wpList_store_at rfl 41 _ _ rfl (HS4.out.at_ 1 rfl) (ndV 0 0 0 0) rfl rfl (by kernel_rfl) (Nat.le_of_ble_eq_true rfl) (by kernel_rfl) ?_; intro W5 hB hP; have HS5 := Lib.hid (HS4.out.put 1 rfl (new := z4) hB hP); clear hB hP HS4))
  exact post_cell rfl rfl (HS5.out.at_ 1 rfl) Try.underlying41 rfl (by kernel_rfl) rfl ⟨rfl, Ms.cut (l := [blkR r A n c p 4 (n : Int)]) (k := [.blk g1 41 z4, .blk g2 41 z4]) HS5.out⟩
set_option maxRecDepth 100000 in
set_option maxHeartbeats 4000000 in
theorem rNodes_yes (r : Nat) (A : Option Addr) (n c p : Nat) (y f : Int) (bs : List UInt8) (w : World) (h : RdOk w r A n c p y f bs) (hw : wellB y f = true) (hs : p + 32 ≤ n) :
    Calls Try.prog 23 #[.pointer (some ⟨r, 0, none⟩)] w (RdPost w r A n c (ndV (wordR bs p 0) (wordR bs p 1) (wordR bs p 2) (wordR bs p 3)) (p + 32) y f) := by
  have HS0 := Lib.hid (Ms.start (o := blkR r A n c p y f) h.blk)
  have HL := Lib.hid (fun w' hB => left_c r A n c p y f w' hB h.le (by have := h.small; omega))
  have hI : ¬ ((n - p : Nat) : Int) < 32 := by omega
  have hId : decide (((n - p : Nat) : Int) < 32) = false := decide_eq_false hI
  have hnI : (n : Int) ≤ 140737488355328 := by have := h.small; omega
  have hcI : (n : Int) ≤ (c : Int) := by have := h.cap; omega
  have HR := Lib.hid h.reads
  have HO := Lib.hid h.off
  obtain ⟨ad, hAe, _⟩ := h.reads.2.2 (by omega)
  have HLen := Lib.hid h.reads.1
  clear h
  subst hAe
  go_enter Try.func23, Try.ntmps23
  go_wp2_with (first
    | (refine wpList_alloc_b rfl (some 2) rfl 41 z4 (by kernel_rfl) ?_; intro g1 W1 hb hB hg; have HS1 := Lib.hid (HS0.out.new hb hB hg); clear hb hB hg HS0)
    | (refine wpList_alloc_b rfl (some 3) rfl 41 z4 (by kernel_rfl) ?_; intro g2 W2 hb hB hg; have HS2 := Lib.hid (HS1.out.new hb hB hg); clear hb hB hg HS1))
  refine (well_c r _ n c p y f _ (HS2.out.at_ 0 rfl)).mono ?_
  rintro e w' ⟨rfl, rfl⟩
  go_wp2_with fail
  refine (HL.out _ (HS2.out.at_ 0 rfl)).mono ?_
  rintro e W3 ⟨rfl, hb⟩
  have HS3 := Lib.hid (HS2.out.after hb)
  clear hb HS2 HL
  go_wp2_with fail
  go_loopw [21] (fun i wr => ∃ k : Nat, k ≤ 4 ∧ i = .int .i64 k ∧ Ms w (fun k => k = r) [blkR r (some ad) n c (p + 8 * k) y f, .blk g1 41 z4, .blk g2 41 (wordsA (midW bs p k 0))] wr) (fun i _ => 4 - (intOf i).toNat)
  case atStart => exact ⟨0, by omega, rfl, by rw [midW_zero]; exact HS3.out⟩
  case round =>
    obtain ⟨i, hi, rfl, hS⟩ := hrel
    clear HS3
    have HS1 := Lib.hid hS
    clear hS
    by_cases hlt : i < 4
    · have hltI : (i : Int) < 4 := by omega
      go_wp2_with fail
      go_loopw [24] (fun j wr2 => ∃ k : Nat, k ≤ 8 ∧ j = .int .i64 k ∧ Ms w (fun k => k = r) [blkR r (some ad) n c (p + 8 * i) y f, .blk g1 41 z4, .blk g2 41 (wordsA (midW bs p i k))] wr2) (fun j _ => 8 - (intOf j).toNat)
      case atStart => exact ⟨0, by omega, rfl, HS1.out⟩
      case round =>
        obtain ⟨k, hk, rfl, hS⟩ := hrel
        clear HS1
        have HS2 := Lib.hid hS
        clear hS
        by_cases hlt2 : k < 8
        · have hltJ : (k : Int) < 8 := by omega
          have HRr := Lib.hid (HR.out.turn HS2.out.turn HO.out)
          obtain ⟨b, hbe⟩ : ∃ b, b = (bs.getD (p + 8 * i + k) 0).toNat := ⟨_, rfl⟩
          have hb256 : b < 256 := hbe ▸ UInt8.toNat_lt _
          have hq : (p + 8 * i : Nat) + k < n := by omega
          obtain ⟨q, hqe⟩ : ∃ q, q = p + 8 * i := ⟨_, rfl⟩
          rw [← hqe] at HS2 hq hbe
          have hqI : (q : Int) + (k : Int) < (n : Int) := by omega
          obtain ⟨x, hx⟩ : ∃ x, x = midW bs p i k i := ⟨_, rfl⟩
          have hxe : x = partW (bs.drop q) k := by rw [hx, hqe]; unfold midW; rw [if_neg (by omega), if_pos rfl]
          have hxl : x < 2 ^ (8 * k) := hxe ▸ partW_lt _ _
          obtain ⟨T, hT⟩ : ∃ T : Nat, T = b * 2 ^ (8 * k) := ⟨_, rfl⟩
          have hP8 : (2 : Nat) ^ (8 * k) ≤ 2 ^ 56 := Nat.pow_le_pow_right (by decide) (by omega)
          have hTB : T < 18446744073709551616 := by
            have h56 : (2 : Nat) ^ 56 = 72057594037927936 := by decide
            have := Nat.mul_le_mul (show b ≤ 255 by omega) hP8
            omega
          obtain ⟨x2, hx2⟩ : ∃ x2 : Nat, x2 = x + T := ⟨_, rfl⟩
          have hor : bits .or .u64 (x : Int) (T : Int) = (x2 : Int) := by rw [hx2, hT]; exact or_low (8 * k) b x (by omega) hxl (by rw [← hT]; exact hTB)
          have hsh : IntKind.u64.wrap ((b : Int) * 2 ^ (8 * k)) = (T : Int) := by
            have e1 : ((2 : Int) ^ (8 * k)) = ((2 ^ (8 * k) : Nat) : Int) := by norm_cast
            rw [e1, ← Int.natCast_mul, ← hT, IntKind.wrap_u64]
            omega
          have hx64 : (x : Int) < 18446744073709551616 := by
            have h56 : (2 : Nat) ^ 56 = 72057594037927936 := by decide
            omega
          have HN := Lib.hid (show (wordsA (midW bs p i k)).setIfInBounds i (.int .u64 (x2 : Nat)) = wordsA (midW bs p i (k + 1)) by
            rw [wordsA_set _ _ _ hlt, ← midW_upd, hx2, hxe, hT, hbe, ← hqe]
            congr 2
            show _ = partW (bs.drop q) k + _
            rw [List.getD_eq_getElem?_getD, List.getD_eq_getElem?_getD, List.getElem?_drop])
          have HX := Lib.hid (wordsA_at (midW bs p i k) i hlt)
          rw [← hx] at HX
          have HQ := Lib.hid hqe
          have HBE := Lib.hid hbe
          clear hqe hx hxe hxl hT hP8 hTB hx2 hbe
          go_wp2_with fail
          refine region_bt 21 (fun W => Ms w (fun k => k = r) [blkR r (some ad) n c q y f, .blk g1 41 z4, .blk g2 41 (wordsA (midW bs p i k))] W ∧ ReadsB W (some ad) n bs) (by kernel_rfl) (by kernel_rfl) ⟨HS2.out, HRr.out⟩ ?_
          clear HS2 HRr
          rintro W4 ⟨hS, hRW⟩
          have q0 := hS.on 0 rfl
          have q2 : ∀ d os, (grow (redrawn W4 d) os).cell? ⟨g2, i, none⟩ = some (.int .u64 (x : Nat)) := fun d os => (hS.on 2 rfl d os i).trans HX.out
          have q3 : ∀ d os, (grow (redrawn W4 d) os).cell? (ad.add (q + k)) = some (.int .u8 (b : Nat)) := fun d os => by
            obtain ⟨ad', e, hc⟩ := hRW.2.2 (by omega)
            cases e
            have h1 := hc (q + k) hq
            rw [← HBE.out] at h1
            rw [← h1]
            exact (below_regrown W4 d os).cell (block_lt_of_cell h1)
          have HS4 := Lib.hid hS
          clear hS hRW
          simp only [List.take_succ_cons, List.take_zero, List.drop_succ_cons, List.drop_zero]
          repeat (first | go_big_quiet_step (fail) | quiet_step (fail))
          refine wpQuiet_nil ?_
          intro W5 hb
          have HS5 := Lib.hid (HS4.out.after hb)
          clear hb HS4 q0 q2 q3
          obtain ⟨r1, r2, r3⟩ := HS5.out.rules 2 rfl
          have c1 := (r1 i).trans HX.out
          have c2 := r2 i
          clear r1 r2 r3
          go_wp2_with fail
          refine ⟨⟨k + 1, by omega, by go_num, ?_⟩, by simp [intOf]; omega⟩
          rw [← HQ.out]
          exact HS5.out.set 2 i (.int .u64 (x2 : Nat)) rfl HN.out
        · obtain rfl : k = 8 := by omega
          have HE := Lib.hid (midW_next bs p i)
          obtain ⟨r1, r2, r3⟩ := HS2.out.rules 0 rfl
          have hpI : (p : Int) + 8 * (i : Int) + 8 ≤ 140737488355328 := by omega
          go_wp2_with (refine wpList_store_at rfl 3 _ _ rfl (HS2.out.at_ 0 rfl) (.int .i64 ((p : Int) + 8 * (i : Int) + 8)) rfl rfl (by kernel_rfl) (Nat.le_of_ble_eq_true rfl) (by kernel_rfl) ?_; intro W5 hB hP; have HS5 := Lib.hid (HS2.out.put 0 rfl (new := #[.slice (some ad) n c, .int .i64 ((p : Int) + 8 * (i : Int) + 8), .int .i64 y, .int .i64 f]) hB hP); clear hB hP HS2 r1 r2 r3)
          refine ⟨⟨i + 1, by omega, by go_num, ?_⟩, by simp [intOf]; omega⟩
          have h1 := HS5.out
          rw [show (p : Int) + 8 * (i : Int) + 8 = ((p + 8 * (i + 1) : Nat) : Int) by omega, HE.out] at h1
          exact h1
    · obtain rfl : i = 4 := by omega
      have HF := HS1.out
      rw [midW_four] at HF
      have HG := Lib.hid HF
      clear HF HS1
      go_wp2_with (first
        | (refine wpList_load_at rfl 41 _ rfl (HG.out.at_ 2 rfl) 4 (ndV (wordR bs p 0) (wordR bs p 1) (wordR bs p 2) (wordR bs p 3)) rfl _ Try.underlying41 rfl (by kernel_rfl) (Nat.le_of_ble_eq_true rfl) rfl ?_)
        | (refine wpList_store_at rfl 41 _ _ rfl (HG.out.at_ 1 rfl) (ndV (wordR bs p 0) (wordR bs p 1) (wordR bs p 2) (wordR bs p 3)) rfl rfl (by kernel_rfl) (Nat.le_of_ble_eq_true rfl) (by kernel_rfl) ?_; intro W5 hB hP; have HS5 := Lib.hid (HG.out.put 1 rfl (new := #[.int .u64 (wordR bs p 0 : Nat), .int .u64 (wordR bs p 1 : Nat), .int .u64 (wordR bs p 2 : Nat), .int .u64 (wordR bs p 3 : Nat)]) hB hP); clear hB hP HG))
      exact post_cell rfl rfl (HS5.out.at_ 1 rfl) Try.underlying41 rfl (by kernel_rfl) rfl ⟨rfl, Ms.cut (l := [blkR r (some ad) n c (p + 32) y f]) (k := [.blk g1 41 _, .blk g2 41 _]) HS5.out⟩
/-- Nodes, in one. -/
def nodesR (bs : List UInt8) (p : Nat) (y f : Int) : (Nat → Nat) × Nat × Int × Int :=
  if wellB y f = true then (if bs.length - p < 32 then (fun _ => 0, p, 4, (bs.length : Int)) else (wordR bs p, p + 32, y, f)) else (fun _ => 0, p, y, f)
theorem rNodes_c (r : Nat) (A : Option Addr) (n c p : Nat) (y f : Int) (bs : List UInt8) (w : World) (h : RdOk w r A n c p y f bs) (s : Nat → Nat) (q : Nat) (y' f' : Int) (hv : nodesR bs p y f = (s, q, y', f')) :
    Calls Try.prog 23 #[.pointer (some ⟨r, 0, none⟩)] w (RdPost w r A n c (ndV (s 0) (s 1) (s 2) (s 3)) q y' f') := by
  have hl := h.reads.1
  unfold nodesR at hv
  cases hw : wellB y f
  · rw [hw, if_neg (by simp)] at hv
    simp only [Prod.mk.injEq] at hv
    obtain ⟨rfl, rfl, rfl, rfl⟩ := hv
    exact rNodes_no r A n c p y f bs w h hw
  · rw [hw, if_pos rfl] at hv
    by_cases hb : bs.length - p < 32
    · rw [if_pos hb] at hv
      simp only [Prod.mk.injEq] at hv
      obtain ⟨rfl, rfl, rfl, rfl⟩ := hv
      rw [hl] at hb ⊢
      exact rNodes_end r A n c p y f bs w h hw hb
    · rw [if_neg hb] at hv
      simp only [Prod.mk.injEq] at hv
      obtain ⟨rfl, rfl, rfl, rfl⟩ := hv
      exact rNodes_yes r A n c p y f bs w h hw (by have := h.le; omega)
end Go.Proofs.Ytphmaimgpolaoaa
