/- The walks of math/bits' functions on words, and of what asks for one number. -/
import Derived.Test.YtmhbblkihjmonaaDoorB1
set_option linter.unusedVariables false
namespace Go.Proofs.YtmhbblkihjmonaaDoor
open Go.RowKit

theorem wrap_u64_nat {a : Nat} (h : a ≤ 18446744073709551615) : IntKind.u64.wrap (a : Int) = (a : Int) := by rw [IntKind.wrap_u64]; omega
theorem and127 (y : Nat) (h : y ≤ 9223372036854775807) : bits .and .i64 (wrap64 (y : Int)) 127 = ((y % 128 : Nat) : Int) := by
  rw [show wrap64 (y : Int) = (y : Int) by unfold wrap64; omega]
  show IntKind.i64.wrap ((BitVec.ofInt 64 (y : Int) &&& BitVec.ofInt 64 127).toNat : Int) = _
  rw [BitVec.toNat_and, BitVec.ofInt_natCast, BitVec.toNat_ofNat, Nat.mod_eq_of_lt (show y < 2 ^ 64 by omega), show (BitVec.ofInt 64 127).toNat = 127 from rfl, nat_mask7, IntKind.wrap_i64]
  omega
theorem pc_core (x y1 y2 y3 y4 y5 y6 r : Nat) (e1 : IntKind.u64.wrap (bits .and .u64 ((x : Int) / 2) 6148914691236517205 + bits .and .u64 (x : Int) 6148914691236517205) = (y1 : Int))
    (e2 : IntKind.u64.wrap (bits .and .u64 ((y1 : Int) / 4) 3689348814741910323 + bits .and .u64 (y1 : Int) 3689348814741910323) = (y2 : Int))
    (e3 : bits .and .u64 (IntKind.u64.wrap ((y2 : Int) / 16 + (y2 : Int))) 1085102592571150095 = (y3 : Int)) (e4 : IntKind.u64.wrap ((y3 : Int) + (y3 : Int) / 256) = (y4 : Int)) (e5 : IntKind.u64.wrap ((y4 : Int) + (y4 : Int) / 65536) = (y5 : Int))
    (e6 : IntKind.u64.wrap ((y5 : Int) + (y5 : Int) / 4294967296) = (y6 : Int)) (e7 : bits .and .i64 (wrap64 (y6 : Int)) 127 = (r : Int)) (w : World) :
    Calls Tryd.prog 56 #[.int .u64 (x : Int)] w fun e w' => e = .returned (.int .i64 r) ∧ w = w' := by
  go_enter Tryd.func56, Tryd.ntmps56
  go_wp2
  go_ret
  exact ⟨rfl, rfl⟩
theorem st_le (m x k : Nat) : st1 m x ≤ 2 * m ∧ st2 m x ≤ 2 * m := by
  unfold st1 st2
  have a := @Nat.and_le_right (x / 2) m
  have b := @Nat.and_le_right x m
  have c := @Nat.and_le_right (x / 4) m
  omega
theorem div_cast (x k : Nat) : ((x : Int) / (k : Int)) = ((x / k : Nat) : Int) := by simp
theorem d2 (x : Nat) : (x : Int) / 2 = ((x / 2 : Nat) : Int) := by omega
theorem d4 (x : Nat) : (x : Int) / 4 = ((x / 4 : Nat) : Int) := by omega
theorem d16 (x : Nat) : (x : Int) / 16 = ((x / 16 : Nat) : Int) := by omega
theorem d256 (x : Nat) : (x : Int) / 256 = ((x / 256 : Nat) : Int) := by omega
theorem d65536 (x : Nat) : (x : Int) / 65536 = ((x / 65536 : Nat) : Int) := by omega
theorem d32 (x : Nat) : (x : Int) / 4294967296 = ((x / 4294967296 : Nat) : Int) := by omega
theorem pc_c (x : Nat) (hx : x ≤ 18446744073709551615) (w : World) :
    Calls Tryd.prog 56 #[.int .u64 (x : Int)] w fun e w' => e = .returned (.int .i64 ((wl x).length : Nat)) ∧ w = w' := by
  obtain ⟨hp, hle⟩ := pcAll_eq (show x < 2 ^ 64 by omega)
  have m1 : rep 85 8 = 6148914691236517205 := by decide +kernel
  have m2 : rep 51 8 = 3689348814741910323 := by decide +kernel
  have m3 : rep 15 8 = 1085102592571150095 := by decide +kernel
  have l1 := (st_le (rep 85 8) x 0).1
  have l2 := (st_le (rep 51 8) (st1 (rep 85 8) x) 0).2
  rw [m1] at l1 l2
  rw [m2] at l2
  refine pc_core x (st1 (rep 85 8) x) (st2 (rep 51 8) (st1 (rep 85 8) x)) (pcs 8 x) (pcs 8 x + pcs 8 x / 256) (pcs 8 x + pcs 8 x / 256 + (pcs 8 x + pcs 8 x / 256) / 65536)
    (pcs 8 x + pcs 8 x / 256 + (pcs 8 x + pcs 8 x / 256) / 65536 + (pcs 8 x + pcs 8 x / 256 + (pcs 8 x + pcs 8 x / 256) / 65536) / 4294967296) _ ?_ ?_ ?_ ?_ ?_ ?_ ?_ w
  · rw [d2 x, show (6148914691236517205 : Int) = ((6148914691236517205 : Nat) : Int) from rfl, and_u64 _ _ (by omega) (by omega), and_u64 _ _ hx (by omega), ← Int.natCast_add, m1]
    exact wrap_u64_nat (by have := (st_le 6148914691236517205 x 0).1; unfold st1 at this; omega)
  · rw [m1, m2]
    generalize st1 6148914691236517205 x = y at *
    rw [d4 y, show (3689348814741910323 : Int) = ((3689348814741910323 : Nat) : Int) from rfl, and_u64 _ _ (by omega) (by omega), and_u64 _ _ (by omega) (by omega), ← Int.natCast_add]
    exact wrap_u64_nat (by have := (st_le 3689348814741910323 y 0).2; unfold st2 at this; omega)
  · unfold pcs
    rw [m1, m2, m3]
    generalize st2 3689348814741910323 (st1 6148914691236517205 x) = y at *
    rw [d16 y, ← Int.natCast_add, wrap_u64_nat (by omega), show (1085102592571150095 : Int) = ((1085102592571150095 : Nat) : Int) from rfl, and_u64 _ _ (by omega) (by omega)]
    rfl
  · rw [d256 _, ← Int.natCast_add]; exact wrap_u64_nat (by omega)
  · rw [d65536 _, ← Int.natCast_add]; exact wrap_u64_nat (by omega)
  · rw [d32 _, ← Int.natCast_add]; exact wrap_u64_nat (by omega)
  · rw [← hp]; exact and127 _ (by omega)

/-! ### the lowest bit -/
/-- The library's table, in its variable. -/
def TabW (w : World) : Prop := ∀ j, j < 64 → w.cell? ⟨0, j, none⟩ = some (.int .u8 (Lib.deBruijn64tab.getD j 0 : Nat))
theorem TabW.lt {w : World} (h : TabW w) : 0 < w.heap.size := block_lt_of_cell (h 0 (by decide))
theorem TabW.below {w w' : World} {B : Nat} (h : TabW w) (hb : Below B w w') (hB : 0 < B) : TabW w' := fun j hj => (hb.cell (p := ⟨_, j, none⟩) hB).trans (h j hj)
theorem TabW.after {w w' : World} (h : TabW w) (hb : Below w.heap.size w w') : TabW w' := h.below hb h.lt
theorem TabW.alloc {w : World} (h : TabW w) (o : Obj) : TabW (w.alloc o) := h.after ((Below.refl _ _).alloc (Nat.le_refl _) o)
theorem TabW.drew {w : World} (h : TabW w) : TabW w.drew := h
theorem tz_core (x k idx : Nat) (w : World) (hx0 : ((x : Int) == 0) = false)
    (key : IntKind.u64.wrap (bits BinOp.and IntKind.u64 (x : Int) (IntKind.u64.wrap (-(x : Int))) * 285870213051353865) / 288230376151711744 = (idx : Int))
    (hi : idx < 64) (hk : k < 64) (hcell : w.cell? ⟨0, idx, none⟩ = some (.int .u8 k)) :
    Calls Tryd.prog 61 #[.int .u64 x] w fun e w' => e = .returned (.int .i64 k) ∧ w = w' := by
  go_enter Tryd.func61, Tryd.ntmps61
  go_wp2_with (simp only [key])
  go_ret
  exact ⟨rfl, rfl⟩
theorem tz_key (x a : Nat) (hx : x ≤ 18446744073709551615) (hx0 : x ≠ 0) (hlow : x &&& (18446744073709551616 - x) = a) :
    IntKind.u64.wrap (bits BinOp.and IntKind.u64 (x : Int) (IntKind.u64.wrap (-(x : Int))) * 285870213051353865) / 288230376151711744 = ((a * 285870213051353865 % 18446744073709551616 / 288230376151711744 : Nat) : Int) := by
  have e1 : IntKind.u64.wrap (-(x : Int)) = ((18446744073709551616 - x : Nat) : Int) := by rw [IntKind.wrap_u64]; omega
  rw [e1, and_u64 x _ hx (by omega), hlow, IntKind.wrap_u64]
  omega
theorem tz_c (x : Nat) (hx : x ≤ 18446744073709551615) (hx0 : x ≠ 0) (w : World) (hT : TabW w) :
    Calls Tryd.prog 61 #[.int .u64 x] w fun e w' => e = .returned (.int .i64 (Lib.ctz 64 x : Nat)) ∧ w = w' := by
  obtain ⟨hlow, hk⟩ := Lib.lowest_bit 64 x hx0 (by omega)
  obtain ⟨hi, htab⟩ := Lib.deBruijn64_at _ hk
  have hcell := hT _ hi
  rw [htab] at hcell
  exact tz_core x _ _ w (by simp; omega) (tz_key x _ hx hx0 hlow) hi hk hcell

/-! ### turned round -/
theorem revB_core (x y1 y2 y3 : Nat) (e1 : bits .or .u64 (bits .and .u64 ((x : Int) / 256) 71777214294589695) (IntKind.u64.wrap (bits .and .u64 (x : Int) 71777214294589695 * 256)) = (y1 : Int))
    (e2 : bits .or .u64 (bits .and .u64 ((y1 : Int) / 65536) 281470681808895) (IntKind.u64.wrap (bits .and .u64 (y1 : Int) 281470681808895 * 65536)) = (y2 : Int))
    (e3 : bits .or .u64 ((y2 : Int) / 4294967296) (IntKind.u64.wrap ((y2 : Int) * 4294967296)) = (y3 : Int)) (w : World) :
    Calls Tryd.prog 65 #[.int .u64 (x : Int)] w fun e w' => e = .returned (.int .u64 (y3 : Int)) ∧ w = w' := by
  go_enter Tryd.func65, Tryd.ntmps65
  go_wp2
  go_ret
  exact ⟨rfl, rfl⟩
theorem rev_core (x y1 y2 y3 y4 : Nat) (e1 : bits .or .u64 (bits .and .u64 ((x : Int) / 2) 6148914691236517205) (IntKind.u64.wrap (bits .and .u64 (x : Int) 6148914691236517205 * 2)) = (y1 : Int))
    (e2 : bits .or .u64 (bits .and .u64 ((y1 : Int) / 4) 3689348814741910323) (IntKind.u64.wrap (bits .and .u64 (y1 : Int) 3689348814741910323 * 4)) = (y2 : Int))
    (e3 : bits .or .u64 (bits .and .u64 ((y2 : Int) / 16) 1085102592571150095) (IntKind.u64.wrap (bits .and .u64 (y2 : Int) 1085102592571150095 * 16)) = (y3 : Int))
    (hB : ∀ w, Calls Tryd.prog 65 #[.int .u64 (y3 : Int)] w fun e w' => e = .returned (.int .u64 (y4 : Int)) ∧ w = w') (w : World) :
    Calls Tryd.prog 64 #[.int .u64 (x : Int)] w fun e w' => e = .returned (.int .u64 (y4 : Int)) ∧ w = w' := by
  have HB := Lib.hid hB
  clear hB
  go_enter Tryd.func64, Tryd.ntmps64
  go_wp2_with fail
  refine (HB.out _).mono ?_
  rintro e w' ⟨rfl, rfl⟩
  go_wp2
  go_ret
  exact ⟨rfl, rfl⟩
theorem step_eq (k m : Nat) (x : Nat) (hx : x ≤ 18446744073709551615) (hm : m * 2 ^ k ≤ 18446744073709551615) (hm2 : m ≤ 18446744073709551615) :
    bits .or .u64 (bits .and .u64 ((x : Int) / ((2 ^ k : Nat) : Int)) (m : Nat)) (IntKind.u64.wrap (bits .and .u64 (x : Int) (m : Nat) * ((2 ^ k : Nat) : Int))) = ((revStep k m x : Nat) : Int) := by
  have h1 : x / 2 ^ k ≤ x := Nat.div_le_self _ _
  have h2 : (x &&& m) * 2 ^ k ≤ m * 2 ^ k := Nat.mul_le_mul_right _ Nat.and_le_right
  have h3 : x / 2 ^ k &&& m ≤ m := Nat.and_le_right
  rw [div_cast, and_u64 _ _ (by omega) hm2, and_u64 _ _ hx hm2, ← Int.natCast_mul, wrap_u64_nat (by omega), or_u64 _ _ (by omega) (by omega)]
  rfl
theorem rs_le (k m x : Nat) (hm : m * 2 ^ k < 2 ^ 64) (hm2 : m < 2 ^ 64) : revStep k m x ≤ 18446744073709551615 := by have := revStep_lt k m x hm hm2; omega
theorem rev_c (x : Nat) (hx : x ≤ 18446744073709551615) (w : World) :
    Calls Tryd.prog 64 #[.int .u64 (x : Int)] w fun e w' => e = .returned (.int .u64 ((revAll x : Nat) : Int)) ∧ w = w' := by
  refine rev_core x _ _ _ _ (step_eq 1 6148914691236517205 x hx (by decide) (by decide)) (step_eq 2 3689348814741910323 _ (rs_le _ _ _ (by decide) (by decide)) (by decide) (by decide))
    (step_eq 4 1085102592571150095 _ (rs_le _ _ _ (by decide) (by decide)) (by decide) (by decide)) (fun w => ?_) w
  refine revB_core _ _ _ _ (step_eq 8 71777214294589695 _ (rs_le _ _ _ (by decide) (by decide)) (by decide) (by decide)) (step_eq 16 281470681808895 _ (rs_le _ _ _ (by decide) (by decide)) (by decide) (by decide)) ?_ w
  show _ = ((revAll x : Nat) : Int)
  have hy : revB (rev3 x) ≤ 18446744073709551615 := rs_le _ _ _ (by decide) (by decide)
  show bits .or .u64 (((revB (rev3 x) : Nat) : Int) / ((4294967296 : Nat) : Int)) (IntKind.u64.wrap (((revB (rev3 x) : Nat) : Int) * ((4294967296 : Nat) : Int))) = _
  unfold revAll
  generalize revB (rev3 x) = y at *
  rw [div_cast, ← Int.natCast_mul, IntKind.wrap_u64, show (((y * 4294967296 : Nat) : Int) % 18446744073709551616) = ((y * 4294967296 % 18446744073709551616 : Nat) : Int) by omega, or_u64 _ _ (by omega) (by omega)]
end Go.Proofs.YtmhbblkihjmonaaDoor
