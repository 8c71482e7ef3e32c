/- Safe: Len64, LeadingZeros64. -/
import Derived.Test.YthoagfoekopioaaY3
import Derived.Lib.BitFns
import Derived.Lib.Tables
set_option linter.unusedVariables false
namespace Go.Proofs.Ythoagfoekopioaa
open Go.RowKit

theorem tab8 (y : Int) (h : y.toNat < Lib.len8tab.size) (h0 : 0 ≤ y) (h1 : y ≤ 255) : ((Lib.len8tab[y.toNat]'h).toNat : Int) = (Lib.bitLen y.toNat : Nat) := by
  rw [← Lib.len8_of y h0 h1]
  unfold Lib.len8
  rw [getElem?_pos Lib.len8tab y.toNat h]
  rfl
/-- One way through Len64: the table's word on what is left, and what was shifted away. -/
theorem len_way (x y : Int) (k : Nat) (hk : k ≤ 56) (h0 : 0 ≤ y) (h1 : y ≤ 255) (hb : Lib.bitLen x.toNat = k + Lib.bitLen y.toNat) (h : y.toNat < Lib.len8tab.size) :
    RowKit.wrap64 ((k : Int) + RowKit.wrap64 ((Lib.len8tab[y.toNat]'h).toNat : Int)) = (Lib.bitLen x.toNat : Nat) := by
  rw [tab8 y h h0 h1, hb]
  have := Lib.bitLen_le8' y h0 h1
  unfold RowKit.wrap64
  omega
theorem len_way0 (y : Int) (h0 : 0 ≤ y) (h1 : y ≤ 255) (h : y.toNat < Lib.len8tab.size) : RowKit.wrap64 (RowKit.wrap64 ((Lib.len8tab[y.toNat]'h).toNat : Int)) = (Lib.bitLen y.toNat : Nat) := by
  rw [tab8 y h h0 h1]
  have := Lib.bitLen_le8' y h0 h1
  unfold RowKit.wrap64
  omega
set_option maxRecDepth 1000000 in
set_option maxHeartbeats 8000000 in
theorem len64_c (x : Int) (w : World) (h0 : 0 ≤ x) (h1 : x ≤ 18446744073709551615) : Calls Try.prog 40 #[.int .u64 x] w fun e w' => e = .returned (.int .i64 (Lib.bitLen x.toNat : Nat)) ∧ w = w' := by
  go_enter Try.func40, Try.ntmps40
  go_wp2
  all_goals first
    | go_ret
    | (exfalso
       have hs : (Lib.len8tab.size : Int) = 256 := by rw [Lib.len8tab_size]; rfl
       omega)
  all_goals first
    | exact ⟨ret_i (len_way x (x / 4294967296 / 65536 / 256) 56 (by omega) (by omega) (by omega) (by rw [show (x / 4294967296 / 65536 / 256).toNat = x.toNat / 72057594037927936 by omega]; exact Lib.bitLen_shift56 x.toNat (by omega) (by omega)) _), rfl⟩
    | exact ⟨ret_i (len_way x (x / 4294967296 / 65536) 48 (by omega) (by omega) (by omega) (by rw [show (x / 4294967296 / 65536).toNat = x.toNat / 281474976710656 by omega]; exact Lib.bitLen_shift48 x.toNat (by omega) (by omega)) _), rfl⟩
    | exact ⟨ret_i (len_way x (x / 4294967296 / 256) 40 (by omega) (by omega) (by omega) (by rw [show (x / 4294967296 / 256).toNat = x.toNat / 1099511627776 by omega]; exact Lib.bitLen_shift40 x.toNat (by omega) (by omega)) _), rfl⟩
    | exact ⟨ret_i (len_way x (x / 4294967296) 32 (by omega) (by omega) (by omega) (by rw [show (x / 4294967296).toNat = x.toNat / 4294967296 by omega]; exact Lib.bitLen_shift32 x.toNat (by omega) (by omega)) _), rfl⟩
    | exact ⟨ret_i (len_way x (x / 65536 / 256) 24 (by omega) (by omega) (by omega) (by rw [show (x / 65536 / 256).toNat = x.toNat / 16777216 by omega]; exact Lib.bitLen_shift24 x.toNat (by omega) (by omega)) _), rfl⟩
    | exact ⟨ret_i (len_way x (x / 65536) 16 (by omega) (by omega) (by omega) (by rw [show (x / 65536).toNat = x.toNat / 65536 by omega]; exact Lib.bitLen_shift16 x.toNat (by omega) (by omega)) _), rfl⟩
    | exact ⟨ret_i (len_way x (x / 256) 8 (by omega) (by omega) (by omega) (by rw [show (x / 256).toNat = x.toNat / 256 by omega]; exact Lib.bitLen_shift8 x.toNat (by omega) (by omega)) _), rfl⟩
    | (have hlt : x.toNat < Lib.len8tab.size := by rw [Lib.len8tab_size]; omega
       have := len_way0 x (by omega) (by omega) hlt
       exact ⟨ret_i this, rfl⟩)
theorem lz64_c (x : Int) (w : World) (h0 : 0 ≤ x) (h1 : x ≤ 18446744073709551615) : Calls Try.prog 36 #[.int .u64 x] w fun e w' => e = .returned (.int .i64 (64 - (Lib.bitLen x.toNat : Nat))) ∧ w = w' := by
  have hb : Lib.bitLen x.toNat ≤ 64 := Lib.bitLen_le x.toNat 64 (by omega) (by omega)
  have HL := Lib.hid (fun w => len64_c x w h0 h1)
  clear h0 h1
  generalize Lib.bitLen x.toNat = b at *
  have hw : IntKind.i64.wrap (64 - (b : Int)) = 64 - (b : Int) := by rw [IntKind.wrap_i64]; omega
  go_enter Try.func36, Try.ntmps36
  go_wp2_with fail
  refine (HL.out _).mono ?_
  rintro e w' ⟨rfl, rfl⟩
  go_wp2
  go_ret
  exact ⟨rfl, rfl⟩
end Go.Proofs.Ythoagfoekopioaa
