/- Code: the law CodePuts. -/
import Derived.Test.YtphmaimgpolaoaaCg
import Derived.Deep.RegionHeld3
set_option linter.unusedVariables false
namespace Go.Proofs.Ytphmaimgpolaoaa
open Go.RowKit Go.Sort

theorem ReadsS.below {w w' : World} {A : Option Addr} {n : Nat} {xs : List ByteArray} (h : ReadsS w A n xs) (hb : Below w.heap.size w w') : ReadsS w' A n xs :=
  ⟨h.1, h.2.1, fun hn => by
    obtain ⟨ad, e, hc⟩ := h.2.2 hn
    exact ⟨ad, e, fun j hj => (hb.cell (block_lt_of_cell (hc j hj))).trans (hc j hj)⟩⟩
/-- What came in lies apart from what the walk owns. -/
theorem Ms.apartIn {w W : World} {l : List Own} (h : Ms w noB l W) (i : Nat) {o : Own} (hi : l[i]? = some o) {a : Addr} (ha : a.block < w.heap.size) : ¬ o.bl a.block := fun h1 => by
  rcases h.lo i o hi a.block h1 with h2 | h2
  · omega
  · exact h2
theorem readsI_lt {w : World} {A : Option Addr} {n : Nat} {xs : List Int} (h : ReadsI w A n xs) (hn : 0 < n) (a : Addr) (ha : A = some a) : a.block < w.heap.size := by
  obtain ⟨ad, e, hc⟩ := h.2.2 hn
  rw [ha] at e
  cases e
  have := block_lt_of_cell (hc 0 hn)
  rwa [add_block] at this
theorem readsS_lt {w : World} {A : Option Addr} {n : Nat} {xs : List ByteArray} (h : ReadsS w A n xs) (hn : 0 < n) (a : Addr) (ha : A = some a) : a.block < w.heap.size := by
  obtain ⟨ad, e, hc⟩ := h.2.2 hn
  rw [ha] at e
  cases e
  have := block_lt_of_cell (hc 0 hn)
  rwa [add_block] at this
abbrev ndA (x0 x1 x2 x3 : Nat) : Array Value := #[.int .u64 (x0 : Nat), .int .u64 (x1 : Nat), .int .u64 (x2 : Nat), .int .u64 (x3 : Nat)]
/-- The third of three is forgotten. -/
theorem Ms.drop3 {w W : World} {ex : Nat → Prop} {a b c d : Own} (h : Ms w ex [a, b, c, d] W) : Ms w ex [a, b, d] W :=
  h.pick (fun i => if i = 2 then 3 else i) [a, b, d] (fun i o hi => by
    match i, hi with
    | 0, hi => simpa using hi
    | 1, hi => simpa using hi
    | 2, hi => simpa using hi
    | i + 3, hi => simp at hi) (fun i j hi hj e => by
    simp at hi hj
    split at e <;> split at e <;> omega)
theorem encL_take_le (xs : List Int) (k : Nat) (h : ∀ x ∈ xs, -9223372036854775808 ≤ x ∧ x ≤ 9223372036854775807) : (encL (xs.take k)).length ≤ 10 * xs.length := by
  have h1 := encL_len (l := xs.take k) (fun y hy => h y (List.mem_of_mem_take hy))
  rw [List.length_take] at h1
  omega
/-- What the last region keeps. -/
structure PutsS (w : World) (g1 g2 : Nat) (A5 : Option Addr) (c5 : Nat) (A8 : Option Addr) (c8 : Nat) (b2 b3 : List UInt8) (x0 x1 x2 x3 : Nat) (W : World) : Prop where
  out : Ms w noB [.blk g1 41 (ndA x0 x1 x2 x3), .wr g2 A5 c5 b3, rowB A8 c8 b2] W
theorem PutsS.of {w : World} {g1 g2 : Nat} {A5 : Option Addr} {c5 : Nat} {A8 : Option Addr} {c8 : Nat} {b2 b3 : List UInt8} {x0 x1 x2 x3 : Nat} {W : World} (h : Ms w noB [.blk g1 41 (ndA x0 x1 x2 x3), .wr g2 A5 c5 b3, rowB A8 c8 b2] W) :
    PutsS w g1 g2 A5 c5 A8 c8 b2 b3 x0 x1 x2 x3 W ∧ (∀ o, W.cell? ⟨g1, o, none⟩ = (ndA x0 x1 x2 x3)[o]?) := ⟨⟨h⟩, (h.at_ 0 rfl).cell⟩
set_option maxRecDepth 100000 in
set_option maxHeartbeats 16000000 in
theorem codePuts_w (A : Option Addr) (m c : Nat) (xs : List Int) (B : Option Addr) (n d : Nat) (ts : List ByteArray) (x0 x1 x2 x3 : Nat) (w : World) (hR : ReadsI w A m xs) (hx : ∀ x ∈ xs, -9223372036854775808 ≤ x ∧ x ≤ 9223372036854775807) (hm : m ≤ 1099511627776) (hT : ReadsS w B n ts) (hn : n ≤ 1099511627776) (ht : (encTs ts).length ≤ 17592186044416)
    (hw : ∀ k, wdAt x0 x1 x2 x3 k < 18446744073709551616) :
    Calls Try.prog 4 #[.slice A m c, .slice B n d, ndV x0 x1 x2 x3] w fun e w' => e = .returned (.bool true) ∧ Below w.heap.size w w' := by
  have HS0 := Lib.hid (Ms.nil w noB)
  have HR := Lib.hid hR
  have HX := Lib.hid hx
  have HT := Lib.hid hT
  have HM := Lib.hid (And.intro hm hn)
  have HTL := Lib.hid ht
  have HW := Lib.hid hw
  have HXL := Lib.hid (show (encL xs).length ≤ 10 * m by have := encL_len hx; rw [hR.1] at this; exact this)
  clear hR hx hm hT hn ht hw
  obtain ⟨b1, hb1⟩ : ∃ b1, b1 = ([] : List UInt8) ++ encL xs := ⟨_, rfl⟩
  obtain ⟨b2, hb2⟩ : ∃ b2, b2 = b1 ++ encTs ts := ⟨_, rfl⟩
  obtain ⟨b3, hb3⟩ : ∃ b3, b3 = b2 ++ encN x0 x1 x2 x3 := ⟨_, rfl⟩
  have HB1 := Lib.hid hb1
  have HB2 := Lib.hid hb2
  have HB3 := Lib.hid hb3
  have HL1 := Lib.hid (show b1.length ≤ 10995116277760 by rw [hb1]; simp; have := HXL.out; have := HM.out; omega)
  have HL2 := Lib.hid (show b2.length ≤ 28587302322176 by rw [hb2, List.length_append]; have := HL1.out; have := HTL.out; omega)
  have HL3 := Lib.hid (show b3.length ≤ 28587302322208 by rw [hb3, List.length_append, encN_len]; have := HL2.out; omega)
  clear hb1 hb2 hb3
  go_enter Try.func4, Try.ntmps4
  go_wp2_with (first
    | (refine wpList_alloc_b rfl (some 5) rfl 41 (ndA x0 x1 x2 x3) (by kernel_rfl) ?_; intro g1 W1 hb hB hg; have HS1 := Lib.hid (HS0.out.new hb hB hg); clear hb hB hg HS0)
    | (refine wpList_alloc_b rfl (some 7) rfl 26 #[.slice none 0 0] (by kernel_rfl) ?_; intro g2 W2 hb hB hg; have HS2 := Lib.hid (HS1.out.wrNew hb hB hg); clear hb hB hg HS1))
  refine (wInt_c g2 none 0 [] A m c xs _ (HS2.out.ok 1 _ rfl) (HR.out.below HS2.out.below) HX.out (fun hp a ha => HS2.out.apartIn 1 rfl (readsI_lt HR.out hp a ha)) (by have := HM.out; simp; omega)).mono ?_
  rintro e W3 ⟨rfl, A3, c3, hM⟩
  rw [← HB1.out] at hM
  have HS3 := Lib.hid (HS2.out.call 1 rfl hM)
  clear hM HS2
  go_wp2_with fail
  refine (wText_c g2 A3 c3 b1 B n d ts _ (HS3.out.ok 1 _ rfl) (HT.out.below HS3.out.below) (by have := HM.out; omega) (fun hp a ha => HS3.out.apartIn 1 rfl (readsS_lt HT.out hp a ha)) (by have := HL1.out; have := HTL.out; omega)).mono ?_
  rintro e W4 ⟨rfl, A4, c4, hM⟩
  rw [← HB2.out] at hM
  have HS4 := Lib.hid (HS3.out.call 1 rfl hM)
  clear hM HS3
  go_wp2_with (refine wpList_load_at rfl 41 _ rfl (HS4.out.at_ 0 rfl) 4 (ndV x0 x1 x2 x3) rfl _ Try.underlying41 rfl (by kernel_rfl) (Nat.le_of_ble_eq_true rfl) rfl ?_)
  refine (wNodes_c g2 A4 c4 b2 x0 x1 x2 x3 _ (HS4.out.ok 1 _ rfl) HW.out (by have := HL2.out; omega)).mono ?_
  rintro e W5 ⟨rfl, A5, c5, hM⟩
  rw [← HB3.out] at hM
  have HS5 := Lib.hid (HS4.out.call 1 rfl hM).nilRow
  clear hM HS4
  have hmI : (m : Int) ≤ 1099511627776 := by have := HM.out; omega
  have hnI : (n : Int) ≤ 1099511627776 := by have := HM.out; omega
  go_wp2_with fail
  go_loopw [8, 21] (fun b i wr => ∃ (k : Nat) (A' : Option Addr) (c' : Nat), k ≤ m ∧ i = .int .i64 k ∧ b = slB A' c' (encL (xs.take k)) ∧ Ms w noB [.blk g1 41 (ndA x0 x1 x2 x3), .wr g2 A5 c5 b3, rowB A' c' (encL (xs.take k))] wr) (fun _ i _ => m - (intOf i).toNat)
  case atStart => exact ⟨0, none, 0, by omega, rfl, rfl, HS5.out⟩
  case round =>
    obtain ⟨k, A6, c6, hk, rfl, rfl, hS⟩ := hrel
    clear HS5
    have HS6 := Lib.hid hS
    clear hS
    obtain ⟨cur, hcur⟩ : ∃ cur, cur = encL (xs.take k) := ⟨_, rfl⟩
    rw [← hcur] at HS6 ⊢
    have HC := Lib.hid hcur
    clear hcur
    by_cases hlt : k < m
    · have hltI : (k : Int) < (m : Int) := by omega
      obtain ⟨ad, hAe, hcx⟩ := (HR.out.below HS6.out.below).2.2 (by omega)
      have hcell := hcx k hlt
      obtain ⟨x, hxe⟩ : ∃ x, x = xs.getD k 0 := ⟨_, rfl⟩
      rw [← hxe] at hcell
      have hxx : -9223372036854775808 ≤ x ∧ x ≤ 9223372036854775807 := by
        rw [hxe]
        refine HX.out _ ?_
        rw [List.getD_eq_getElem?_getD, List.getElem?_eq_getElem (show k < xs.length by rw [HR.out.1]; exact hlt)]
        exact List.getElem_mem _
      have HXX := Lib.hid hxx
      have HN := Lib.hid (show encL (xs.take (k + 1)) = cur ++ encI x by rw [HC.out, hxe, take_snoc xs k (by rw [HR.out.1]; exact hlt), encL_append, encL_one])
      have HCl := Lib.hid (show cur.length + 10 ≤ 140737488355328 by rw [HC.out]; have := encL_take_le xs k HX.out; rw [HR.out.1] at this; have := HM.out; omega)
      have hr6 := rowB_read (HS6.out.ok 2 _ rfl)
      have HR6 := Lib.hid hr6
      clear hcx hxe hxx hr6
      subst hAe
      go_wp2_with fail
      clear hcell
      refine (refInt_c A6 cur.length c6 cur x _ HR6.out.1 HR6.out.2 HXX.out HCl.out).mono ?_
      rintro e W7 ⟨A7, c7, rfl, hM⟩
      rw [← HN.out] at hM ⊢
      have HS7 := Lib.hid (HS6.out.made hM).drop3
      clear hM HS6 HR6
      go_wp2_with fail
      exact ⟨⟨k + 1, A7, c7, by omega, by go_num, rfl, HS7.out⟩, by simp [intOf]; omega⟩
    · have hltI : ¬ (k : Int) < (m : Int) := by omega
      have hke : k = m := by omega
      have HCe := Lib.hid (show cur = b1 by rw [HC.out, HB1.out, List.take_of_length_le (by rw [HR.out.1]; omega)]; rfl)
      rw [HCe.out] at HS6 ⊢
      clear HC HCe
      go_wp2_with fail
      go_loopw [8, 31] (fun b i wr => ∃ (k : Nat) (A' : Option Addr) (c' : Nat), k ≤ n ∧ i = .int .i64 k ∧ b = slB A' c' (b1 ++ encTs (ts.take k)) ∧ Ms w noB [.blk g1 41 (ndA x0 x1 x2 x3), .wr g2 A5 c5 b3, rowB A' c' (b1 ++ encTs (ts.take k))] wr) (fun _ i _ => n - (intOf i).toNat)
      case atStart => exact ⟨0, A6, c6, by omega, rfl, by simp [encTs], by simpa [encTs] using HS6.out⟩
      case round =>
        obtain ⟨j, A8, c8, hj, rfl, rfl, hS⟩ := hrel
        clear HS6
        have HS8 := Lib.hid hS
        clear hS
        obtain ⟨cur2, hcur2⟩ : ∃ cur2, cur2 = b1 ++ encTs (ts.take j) := ⟨_, rfl⟩
        rw [← hcur2] at HS8 ⊢
        have HC2 := Lib.hid hcur2
        clear hcur2
        by_cases hlt2 : j < n
        · have hltJ : (j : Int) < (n : Int) := by omega
          obtain ⟨ad, hAe, hcx⟩ := (HT.out.below HS8.out.below).2.2 (by omega)
          have hcell := hcx j hlt2
          obtain ⟨x, hxe⟩ : ∃ x, x = ts.getD j .empty := ⟨_, rfl⟩
          rw [← hxe] at hcell
          have HN := Lib.hid (show b1 ++ encTs (ts.take (j + 1)) = cur2 ++ encT x by rw [HC2.out, hxe, takeS_snoc ts j (by rw [HT.out.1]; exact hlt2), encTs_append, encTs_one, List.append_assoc])
          have HCl := Lib.hid (show cur2.length + 10 + x.size ≤ 140737488355328 by
            have h1 := congrArg List.length HN.out
            have h2 : (encT x).length = (encI x.size).length + x.size := by unfold encT; rw [List.length_append]; rfl
            rw [List.length_append, List.length_append] at h1
            have h3 := encTs_le ts (j + 1)
            have := HL1.out
            have := HTL.out
            omega)
          have hr8 := rowB_read (HS8.out.ok 2 _ rfl)
          have HR8 := Lib.hid hr8
          clear hcx hxe hr8
          subst hAe
          go_wp2_with fail
          clear hcell
          refine (refText_c A8 cur2.length c8 cur2 x _ HR8.out.1 HR8.out.2 HCl.out).mono ?_
          rintro e W9 ⟨A9, c9, rfl, hM⟩
          rw [← HN.out] at hM ⊢
          have HS9 := Lib.hid (HS8.out.made hM).drop3
          clear hM HS8 HR8
          go_wp2_with fail
          exact ⟨⟨j + 1, A9, c9, by omega, by go_num, rfl, HS9.out⟩, by simp [intOf]; omega⟩
        · have hltJ : ¬ (j : Int) < (n : Int) := by omega
          have HCe := Lib.hid (show cur2 = b2 by rw [HC2.out, HB2.out, List.take_of_length_le (by rw [HT.out.1]; omega)])
          rw [HCe.out] at HS8 ⊢
          clear HC2 HCe
          go_wp2_with fail
          have hE := HS8.out
          go_region_held3 (fun w' => PutsS w g1 g2 A5 c5 A8 c8 b2 b3 x0 x1 x2 x3 w' ∧ (∀ o, w'.cell? ⟨g1, o, none⟩ = (ndA x0 x1 x2 x3)[o]?))
            (first
              | exact (PutsS.of (hE.drewN 1))
              | assumption
              | exact (PutsS.of ((PutsS.out (w := w) (g1 := g1) (g2 := g2) (A5 := A5) (c5 := c5) (A8 := A8) (c8 := c8) (b2 := b2) (b3 := b3) (x0 := x0) (x1 := x1) (x2 := x2) (x3 := x3) (And.left (b := ∀ o, World.cell? _ ⟨g1, o, none⟩ = (ndA x0 x1 x2 x3)[o]?) (by assumption))).after hb)))
            (first
              | ((with_reducible refine (wBytes_c g2 A5 c5 b3 _ ((PutsS.out (w := w) (g1 := g1) (g2 := g2) (A5 := A5) (c5 := c5) (A8 := A8) (c8 := c8) (b2 := b2) (b3 := b3) (x0 := x0) (x1 := x1) (x2 := x2) (x3 := x3) (And.left (b := ∀ o, World.cell? _ ⟨g1, o, none⟩ = (ndA x0 x1 x2 x3)[o]?) (by assumption))).ok 1 _ rfl) (Nat.le_trans HL3.out (by decide))).mono ?_); rintro e w1 ⟨A11, c11, rfl, hM1⟩; have hb := hM1.below; have hR1 := (rowB_read (hM1.ok 0 _ rfl)).1)
              | (go_at_call 20; (refine (refNodes_c A8 _ c8 b2 x0 x1 x2 x3 _ (rowB_read ((PutsS.out (w := w) (g1 := g1) (g2 := g2) (A5 := A5) (c5 := c5) (A8 := A8) (c8 := c8) (b2 := b2) (b3 := b3) (x0 := x0) (x1 := x1) (x2 := x2) (x3 := x3) (And.left (b := ∀ o, World.cell? _ ⟨g1, o, none⟩ = (ndA x0 x1 x2 x3)[o]?) (by assumption))).ok 2 _ rfl)).1 (rowB_read ((PutsS.out (w := w) (g1 := g1) (g2 := g2) (A5 := A5) (c5 := c5) (A8 := A8) (c8 := c8) (b2 := b2) (b3 := b3) (x0 := x0) (x1 := x1) (x2 := x2) (x3 := x3) (And.left (b := ∀ o, World.cell? _ ⟨g1, o, none⟩ = (ndA x0 x1 x2 x3)[o]?) (by assumption))).ok 2 _ rfl)).2 HW.out (Nat.le_trans (Nat.add_le_add_right HL2.out 32) (by decide))).mono ?_); rw [← HB3.out]; rintro e w1 ⟨A12, c12, rfl, hM2⟩; have hb := hM2.below; have hR2 := (rowB_read (hM2.ok 0 _ rfl)).1)
              | ((with_reducible refine (same_c _ _ _ b3 _ _ _ b3 _ (by first | exact hR1 | exact hR1.below hM2.below) (by first | exact hR2 | exact hR2.below hM1.below)).mono ?_); rw [show decide (b3 = b3) = true from decide_eq_true rfl]; rintro e w1 ⟨rfl, rfl⟩)
              | ((with_reducible refine (alive_c _).mono ?_); rintro e w1 ⟨rfl, hb⟩))
          all_goals
            have hz := (PutsS.out (w := w) (g1 := g1) (g2 := g2) (A5 := A5) (c5 := c5) (A8 := A8) (c8 := c8) (b2 := b2) (b3 := b3) (x0 := x0) (x1 := x1) (x2 := x2) (x3 := x3) (And.left (b := ∀ o, World.cell? _ ⟨g1, o, none⟩ = (ndA x0 x1 x2 x3)[o]?) (by assumption))).below
            go_wp2
            go_ret
            exact ⟨rfl, hz⟩
end Go.Proofs.Ytphmaimgpolaoaa
