/- Code: the writer. -/
import Derived.Test.YtphmaimgpolaoaaC1
import Derived.Test.YtphmaimgpolaoaaC2
import Derived.Lib.VarintBits
import Derived.Laws.Shifts
import Derived.WalkSpells
import Derived.IntWalk
import Derived.Laws.BitsAllLaws
set_option linter.unusedVariables false
namespace Go.Proofs.Ytphmaimgpolaoaa
open Go.RowKit Go.Sort

/-- The slice of a row of bytes. -/
abbrev slB (A : Option Addr) (c : Nat) (bs : List UInt8) : Value := .slice A bs.length c
abbrev rowB (A : Option Addr) (c : Nat) (bs : List UInt8) : Own := .row 5 1 (slB A c bs) bs.length (byt bs)
abbrev blkW (g : Nat) (A : Option Addr) (c : Nat) (bs : List UInt8) : Own := .blk g 26 #[slB A c bs]
/-- A writer: its cell, and its bytes in a row. -/
def Own.wr (g : Nat) (A : Option Addr) (c : Nat) (bs : List UInt8) : Own where
  bl k := k = g ∨ (slB A c bs).ownBlock = some k
  ok W := (blkW g A c bs).ok W ∧ (rowB A c bs).ok W ∧ (slB A c bs).ownBlock ≠ some g
  lt W h k hk := hk.elim (fun h1 => (blkW g A c bs).lt W h.1 k h1) (fun h1 => (rowB A c bs).lt W h.2.1 k h1)
  keep W W' hk h := ⟨(blkW g A c bs).keep W W' (fun k h1 => hk k (.inl h1)) h.1, (rowB A c bs).keep W W' (fun k h1 => hk k (.inr h1)) h.2.1, h.2.2⟩
theorem Own.wr_open {g : Nat} {A : Option Addr} {c : Nat} {bs : List UInt8} {w : World} (h : (Own.wr g A c bs).ok w) : Ms w (Own.wr g A c bs).bl [blkW g A c bs, rowB A c bs] w :=
  (Ms.start2 (a := blkW g A c bs) (b := rowB A c bs) h.1 h.2.1 (fun k hk hk' => h.2.2 (by have e : k = g := hk; subst e; exact hk'))).exc (fun k hk => hk)
theorem Own.wr_shut {g : Nat} {A A' : Option Addr} {c c' : Nat} {bs bs' : List UInt8} {w W : World} (h : Ms w (Own.wr g A c bs).bl [blkW g A' c' bs', rowB A' c' bs'] W) : Ms w (Own.wr g A c bs).bl [.wr g A' c' bs'] W :=
  h.join (fun h1 h2 => ⟨h1, h2, fun e => h.apart 0 1 _ _ rfl rfl (by decide) g rfl e⟩) (fun k hk => hk)
/-- What a writer's method leaves. -/
def WrPost (w : World) (g : Nat) (A : Option Addr) (c : Nat) (bs bs' : List UInt8) (e : Ending) (W : World) : Prop := e = .returned (.tuple #[]) ∧ ∃ A' c', Ms w (Own.wr g A c bs).bl [.wr g A' c' bs'] W

theorem zz_pos {n : Int} (h0 : 0 ≤ n) (h1 : n ≤ 9223372036854775807) : bits .xor .u64 (n * 2) 0 = ((Lib.zigzag n : Nat) : Int) := by
  have e : n * 2 = (((2 * n).toNat : Nat) : Int) := by omega
  have e0 : (0 : Int) = ((0 : Nat) : Int) := rfl
  rw [e, e0, bits_xor_u64_nat _ _ (by omega) (by decide), Nat.xor_zero]
  unfold Lib.zigzag
  rw [if_pos h0]
theorem zz_neg {n : Int} (h0 : -9223372036854775808 ≤ n) (h1 : n < 0) : bits .xor .u64 (IntKind.u64.wrap (IntKind.u64.wrap n * 2)) (IntKind.u64.wrap (-1)) = ((Lib.zigzag n : Nat) : Int) := by
  rw [← Lib.zigzag_neg h0 h1]
  show IntKind.u64.wrap _ = IntKind.u64.wrap _
  rw [BitVec.xor_comm]
  rfl
theorem zz {n : Int} (h0 : -9223372036854775808 ≤ n) (h1 : n ≤ 9223372036854775807) : bits .xor .u64 (IntKind.u64.wrap (IntKind.u64.wrap n * 2)) (IntKind.u64.wrap (n / 9223372036854775808)) = ((Lib.zigzag n : Nat) : Int) := by
  rcases Int.lt_or_le n 0 with h | h
  · rw [show n / 9223372036854775808 = -1 by omega]
    exact zz_neg h0 h
  · rw [show n / 9223372036854775808 = 0 by omega, show IntKind.u64.wrap (IntKind.u64.wrap n * 2) = n * 2 by rw [IntKind.wrap_u64, IntKind.wrap_u64]; omega]
    exact zz_pos h h1
theorem byte_lo (U : Nat) : IntKind.u8.wrap (U : Int) = ((U % 256 : Nat) : Int) := by simp [IntKind.wrap, IntKind.bits, IntKind.signed]
theorem byte_hi (U : Nat) : bits .or .u8 ((U % 256 : Nat) : Int) 128 = ((U % 128 + 128 : Nat) : Int) := by
  rw [Lib.u8_or128_any _ (by omega) (by omega)]
  omega

theorem lit_u8 {x : Nat} (h : x < 256) : (#[Value.int .u8 ((x : Nat) : Int)] : Array Value).toList = byt [x.toUInt8] := by
  simp [byt, u8_toNat h]
theorem u64_div7 {U : Nat} (h : 128 ≤ U) : Lib.uvarint U = (U % 128 + 128).toUInt8 :: Lib.uvarint (U / 128) := Lib.uvarint_big h
set_option maxRecDepth 100000 in
set_option maxHeartbeats 4000000 in
theorem wInt_c (g : Nat) (B : Option Addr) (d : Nat) (bs : List UInt8) (A : Option Addr) (m c : Nat) (xs : List Int) (w : World) (hO : (Own.wr g B d bs).ok w) (hR : ReadsI w A m xs) (hx : ∀ x ∈ xs, -9223372036854775808 ≤ x ∧ x ≤ 9223372036854775807)
    (hA : 0 < m → ∀ a, A = some a → ¬ (Own.wr g B d bs).bl a.block) (hlen : bs.length + 10 * m ≤ 140737488355328) :
    Calls Try.prog 12 #[.pointer (some ⟨g, 0, none⟩), .slice A m c] w (WrPost w g B d bs (bs ++ encL xs)) := by
  have HS0 := Lib.hid (Own.wr_open hO)
  have HR := Lib.hid hR
  have HX := Lib.hid hx
  have HA := Lib.hid hA
  have HN := Lib.hid hlen
  have HM := Lib.hid hR.1
  clear hO hR hx hA hlen
  go_enter Try.func12, Try.ntmps12
  go_wp2_with fail
  go_loopw [11] (fun i wr => ∃ (k : Nat) (A' : Option Addr) (c' : Nat), k ≤ m ∧ i = .int .i64 k ∧ Ms w (Own.wr g B d bs).bl [blkW g A' c' (bs ++ encL (xs.take k)), rowB A' c' (bs ++ encL (xs.take k))] wr) (fun i _ => m - (intOf i).toNat)
  case atStart => exact ⟨0, B, d, by omega, rfl, by simpa [encL] using HS0.out⟩
  case round =>
    obtain ⟨k, A', c', hk, rfl, hS⟩ := hrel
    clear HS0
    have HS1 := Lib.hid hS
    clear hS
    have hkb : (k : Int) < 140737488355328 := by have := HN.out; omega
    by_cases hlt : k < m
    · obtain ⟨ad, hAe, hcell⟩ := HR.out.2.2 (by omega)
      subst hAe
      have hc := (HS1.out.turn.block _ (block_lt_of_cell (hcell k hlt)) (by rw [add_block]; exact HA.out (by omega) ad rfl))
      have hcc := (World.cell?_of_block (a := ad.add k) hc).trans (hcell k hlt)
      clear hc hcell
      obtain ⟨x, hxe⟩ : ∃ x, x = xs.getD k 0 := ⟨_, rfl⟩
      rw [← hxe] at hcc
      have HXE := Lib.hid hxe
      clear hxe
      have hxx : -9223372036854775808 ≤ x ∧ x ≤ 9223372036854775807 := by
        rw [HXE.out]
        refine HX.out _ ?_
        rw [List.getD_eq_getElem?_getD, List.getElem?_eq_getElem (show k < xs.length by rw [HM.out]; exact hlt)]
        exact List.getElem_mem _
      have HZ := Lib.hid (zz hxx.1 hxx.2)
      have HU := Lib.hid (Lib.zigzag_lt hxx.1 hxx.2)
      have HE := Lib.hid (show encI x = Lib.uvarint (Lib.zigzag x) from rfl)
      have HT := Lib.hid (show encL (xs.take (k + 1)) = encL (xs.take k) ++ encI x by rw [HXE.out, take_snoc xs k (by rw [HM.out]; exact hlt), encL_append, encL_one])
      have hl1 := encL_len (l := xs.take k) (fun y hy => HX.out y (List.mem_of_mem_take hy))
      rw [List.length_take] at hl1
      have HL := Lib.hid (show (bs ++ encL (xs.take k)).length + (encI x).length ≤ 140737488355328 by have := HN.out; have := (encI_len hxx.1 hxx.2).2; have := HM.out; rw [List.length_append]; omega)
      clear hxx hl1
      go_wp2_with fail
      rw [HZ.out]
      clear HZ
      obtain ⟨out, hout⟩ : ∃ out, out = bs ++ encL (xs.take k) := ⟨_, rfl⟩
      rw [← hout] at HS1 HL
      have HO := Lib.hid hout
      clear hout
      obtain ⟨U0, hU0⟩ : ∃ U, U = Lib.zigzag x := ⟨_, rfl⟩
      rw [← hU0] at HU HE ⊢
      clear hU0
      go_loopw [6] (fun u wr2 => ∃ (U : Nat) (A2 : Option Addr) (c2 : Nat) (done : List UInt8), u = .int .u64 U ∧ U < 18446744073709551616 ∧ done ++ Lib.uvarint U = out ++ encI x ∧ Ms w (Own.wr g B d bs).bl [blkW g A2 c2 done, rowB A2 c2 done] wr2) (fun u _ => (intOf u).toNat)
      case atStart => exact ⟨U0, A', c', out, rfl, HU.out, by rw [HE.out], HS1.out⟩
      case round =>
        obtain ⟨U, A2, c2, done, rfl, hU, hd, hS⟩ := hrel
        clear HS1
        have HS2 := Lib.hid hS
        have HD := Lib.hid hd
        have HB := Lib.hid (show done.length + 1 ≤ 140737488355328 by
          have h1 := congrArg List.length hd
          rw [List.length_append, List.length_append] at h1
          have := HL.out
          have := Lib.uvarint_pos U
          omega)
        clear hS hd hcc
        obtain ⟨r1, r2, r3⟩ := HS2.out.rules 0 rfl
        by_cases hlt2 : U < 128
        · have hb : (((U : Nat) : Int) / 128 != 0) = false := by simp; omega
          have HC := Lib.hid (lit_u8 (x := U) (by omega))
          obtain ⟨nx, hnx⟩ : ∃ nx, nx = bs ++ encL (xs.take (k + 1)) := ⟨_, rfl⟩
          have HF := Lib.hid (show done ++ [U.toUInt8] = nx by rw [hnx, HT.out, ← List.append_assoc, ← HO.out, ← HD.out, Lib.uvarint_small hlt2])
          have HG := Lib.hid hnx
          clear hnx
          go_wp2_with (first
            | (refine wpList_build_b rfl (some 46) rfl 5 1 #[.int .u8 (U : Nat)] (by kernel_rfl) ?_; intro g3 W3 hb3 hB3 hg3; have HS3 := Lib.hid (HS2.out.new hb3 hB3 hg3); clear hb3 hB3 hg3 HS2 r1 r2 r3)
            | (refine append_bytes HS3.out 1 2 rfl (.tmp 43) (.tmp 46) rfl _ done [U.toUInt8] _ _ rfl rfl rfl rfl HC.out HB.out nx HF.out ?_; intro A4 c4 W4 hM; have HS4 := Lib.hid hM; clear hM HS3)
            | (refine wpList_store_at rfl 22 _ _ rfl (HS4.out.at_ 0 rfl) _ rfl rfl (by kernel_rfl) (Nat.le_of_ble_eq_true rfl) (by kernel_rfl) ?_; intro W5 hB hP; have HS5 := Lib.hid (HS4.out.put 0 rfl (new := #[slB A4 c4 nx]) hB hP); clear hB hP HS4))
          refine ⟨⟨k + 1, A4, c4, by omega, by go_num, ?_⟩, by simp [intOf]; omega⟩
          rw [← HG.out]
          exact Ms.cut (l := [blkW g A4 c4 nx, rowB A4 c4 nx]) (k := [.blk g3 5 #[.int .u8 (U : Nat)]]) HS5.out
        · have hb : (((U : Nat) : Int) / 128 != 0) = true := by simp; omega
          obtain ⟨Y, hY⟩ : ∃ Y : Nat, Y = U % 128 + 128 := ⟨_, rfl⟩
          have HC := Lib.hid (lit_u8 (x := Y) (by omega))
          obtain ⟨nx, hnx⟩ : ∃ nx, nx = done ++ [Y.toUInt8] := ⟨_, rfl⟩
          have HF := Lib.hid hnx.symm
          have HG := Lib.hid (show nx ++ Lib.uvarint (U / 128) = out ++ encI x by rw [hnx, hY, ← HD.out, u64_div7 (U := U) (Nat.le_of_not_lt hlt2), List.append_assoc]; rfl)
          have hw2 : bits .or .u8 ((U : Int) % 256) 128 = (Y : Int) := by rw [Lib.u8_or128_any _ (by omega) (by omega)]; omega
          clear hnx hY
          go_wp2_with (first
            | (refine wpList_build_b rfl (some 35) rfl 5 1 #[.int .u8 (Y : Nat)] (by kernel_rfl) ?_; intro g3 W3 hb3 hB3 hg3; have HS3 := Lib.hid (HS2.out.new hb3 hB3 hg3); clear hb3 hB3 hg3 HS2 r1 r2 r3)
            | (refine append_bytes HS3.out 1 2 rfl (.tmp 31) (.tmp 35) rfl _ done [Y.toUInt8] _ _ rfl rfl rfl rfl HC.out HB.out nx HF.out ?_; intro A4 c4 W4 hM; have HS4 := Lib.hid hM; clear hM HS3)
            | (refine wpList_store_at rfl 22 _ _ rfl (HS4.out.at_ 0 rfl) _ rfl rfl (by kernel_rfl) (Nat.le_of_ble_eq_true rfl) (by kernel_rfl) ?_; intro W5 hB hP; have HS5 := Lib.hid (HS4.out.put 0 rfl (new := #[slB A4 c4 nx]) hB hP); clear hB hP HS4))
          refine ⟨⟨U / 128, A4, c4, nx, rfl, by omega, HG.out, Ms.cut (l := [blkW g A4 c4 nx, rowB A4 c4 nx]) (k := [.blk g3 5 #[.int .u8 (Y : Nat)]]) HS5.out⟩, by simp [intOf]; omega⟩
    · have HE := Lib.hid (show bs ++ encL (xs.take k) = bs ++ encL xs by rw [List.take_of_length_le (by rw [HM.out]; omega)])
      go_wp2_with fail
      go_end0
      rw [HE.out] at HS1
      exact ⟨rfl, A', c', Own.wr_shut HS1.out⟩
end Go.Proofs.Ytphmaimgpolaoaa
