/- Safe: the walks of Add, Sub, Clamp, Most, Sum, Int32 of both sides. -/
import Derived.Test.YthoagfoekopioaaProg
import Derived.Test.YthoagfoekopioaaYp
import Derived.Below
import Derived.WalkKit
import Derived.Laws.BitsAllLaws
import Derived.Laws.Bits64
import Derived.Laws.Shifts
import Derived.WalkLawsBesides
import Derived.WalkSpells
import Derived.Deep.QuietTactic
import Derived.BigQuiet
import Derived.Lib.Hide
import Derived.Outline
import Derived.IntWalk
set_option linter.unusedVariables false
namespace Go.Proofs.Ythoagfoekopioaa
open Go.RowKit

theorem ret_two {k j : IntKind} {a b c d : Int} (h1 : a = b) (h2 : c = d) : Ending.returned (.tuple #[.int k a, .int j c]) = .returned (.tuple #[.int k b, .int j d]) := by rw [h1, h2]
theorem ret_i {k : IntKind} {a b : Int} (h : a = b) : Ending.returned (.int k a) = .returned (.int k b) := by rw [h]

/-! ### the sign of an and, an xor -/
theorem wrap_toInt (x : BitVec 64) : IntKind.i64.wrap (x.toNat : Int) = x.toInt := by
  rw [IntKind.wrap_i64, BitVec.toInt_eq_toNat_cond]
  have := x.isLt
  split <;> omega
theorem wrap_neg_iff (x : BitVec 64) : IntKind.i64.wrap (x.toNat : Int) < 0 ↔ x.msb = true := by
  rw [wrap_toInt, BitVec.msb_eq_toInt, decide_eq_true_iff]
theorem ofInt_msb {a : Int} (h : inI a) : (BitVec.ofInt 64 a).msb = decide (a < 0) := by
  unfold inI at h
  rw [BitVec.msb_eq_toInt, BitVec.toInt_ofInt]
  congr 1
  rw [Int.bmod_eq_of_le (by omega) (by omega)]
theorem xor_neg {a b : Int} (ha : inI a) (hb : inI b) : bits .xor .i64 a b < 0 ↔ ¬ (a < 0 ↔ b < 0) := by
  show IntKind.i64.wrap ((BitVec.ofInt 64 a ^^^ BitVec.ofInt 64 b).toNat : Int) < 0 ↔ _
  rw [wrap_neg_iff, BitVec.msb_xor, ofInt_msb ha, ofInt_msb hb]
  by_cases h1 : a < 0 <;> by_cases h2 : b < 0 <;> simp [h1, h2]
theorem wrap_in (x : Int) : inI (IntKind.i64.wrap x) := by unfold inI; rw [IntKind.wrap_i64]; omega
theorem xor_in (a b : Int) : inI (bits .xor .i64 a b) := wrap_in _
theorem and_neg {a b : Int} (ha : inI a) (hb : inI b) : bits .and .i64 a b < 0 ↔ (a < 0 ∧ b < 0) := by
  show IntKind.i64.wrap ((BitVec.ofInt 64 a &&& BitVec.ofInt 64 b).toNat : Int) < 0 ↔ _
  rw [wrap_neg_iff, BitVec.msb_and, ofInt_msb ha, ofInt_msb hb]
  by_cases h1 : a < 0 <;> by_cases h2 : b < 0 <;> simp [h1, h2]
theorem add_test {a b : Int} (ha : inI a) (hb : inI b) : bits .and .i64 (bits .xor .i64 a (IntKind.i64.wrap (a + b))) (bits .xor .i64 b (IntKind.i64.wrap (a + b))) < 0 ↔ fits (a + b) = false := by
  rw [and_neg (xor_in _ _) (xor_in _ _), xor_neg ha (wrap_in _), xor_neg hb (wrap_in _), IntKind.wrap_i64, ← Bool.not_eq_true, fits_iff]
  unfold inI at ha hb
  omega
theorem sub_test {a b : Int} (ha : inI a) (hb : inI b) : bits .and .i64 (bits .xor .i64 a b) (bits .xor .i64 a (IntKind.i64.wrap (a - b))) < 0 ↔ fits (a - b) = false := by
  rw [and_neg (xor_in _ _) (xor_in _ _), xor_neg ha (wrap_in _), xor_neg ha hb, IntKind.wrap_i64, ← Bool.not_eq_true, fits_iff]
  unfold inI at ha hb
  omega
theorem okV_yes {x : Int} (h : fits x = true) : okV x = x := by unfold okV; rw [h]; rfl
theorem okV_no {x : Int} (h : fits x = false) : okV x = 0 := by unfold okV; rw [h]; rfl
theorem okE_yes {x : Int} (h : fits x = true) : okE x = 0 := by unfold okE; rw [h]; rfl
theorem okE_no {x : Int} (h : fits x = false) : okE x = 5 := by unfold okE; rw [h]; rfl

theorem add_c (a b : Int) (ha : inI a) (hb : inI b) (w : World) : Calls Try.prog 22 #[.int .i64 a, .int .i64 b] w fun e w' => e = .returned (.tuple #[.int .i64 (okV (a + b)), .int .i64 (okE (a + b))]) ∧ w = w' := by
  have ht := add_test ha hb
  obtain ⟨c, hc⟩ : ∃ c, c = IntKind.i64.wrap (a + b) := ⟨_, rfl⟩
  have hcc := hc.symm
  rw [hcc] at ht
  cases h : fits (a + b)
  · have h1 := ht.2 h
    rw [okV_no h, okE_no h]
    clear ht h hc ha hb
    go_enter Try.func22, Try.ntmps22
    go_wp2
    go_ret2
    exact ⟨rfl, rfl⟩
  · have h1 : ¬ bits .and .i64 (bits .xor .i64 a c) (bits .xor .i64 b c) < 0 := fun h2 => by rw [ht.1 h2] at h; cases h
    have e : c = a + b := by rw [hc, IntKind.wrap_i64]; rw [fits_iff] at h; omega
    rw [okV_yes h, okE_yes h, ← e]
    clear ht h hc ha hb e
    go_enter Try.func22, Try.ntmps22
    go_wp2
    go_ret2
    exact ⟨rfl, rfl⟩
theorem sub_c (a b : Int) (ha : inI a) (hb : inI b) (w : World) : Calls Try.prog 23 #[.int .i64 a, .int .i64 b] w fun e w' => e = .returned (.tuple #[.int .i64 (okV (a - b)), .int .i64 (okE (a - b))]) ∧ w = w' := by
  have ht := sub_test ha hb
  obtain ⟨c, hc⟩ : ∃ c, c = IntKind.i64.wrap (a - b) := ⟨_, rfl⟩
  have hcc := hc.symm
  rw [hcc] at ht
  cases h : fits (a - b)
  · have h1 := ht.2 h
    rw [okV_no h, okE_no h]
    clear ht h hc ha hb
    go_enter Try.func23, Try.ntmps23
    go_wp2
    go_ret2
    exact ⟨rfl, rfl⟩
  · have h1 : ¬ bits .and .i64 (bits .xor .i64 a b) (bits .xor .i64 a c) < 0 := fun h2 => by rw [ht.1 h2] at h; cases h
    have e : c = a - b := by rw [hc, IntKind.wrap_i64]; rw [fits_iff] at h; omega
    rw [okV_yes h, okE_yes h, ← e]
    clear ht h hc ha hb e
    go_enter Try.func23, Try.ntmps23
    go_wp2
    go_ret2
    exact ⟨rfl, rfl⟩
theorem radd_c (a b : Int) (ha : inI a) (hb : inI b) (w : World) : Calls Try.prog 25 #[.int .i64 a, .int .i64 b] w fun e w' => e = .returned (.tuple #[.int .i64 (okV (a + b)), .int .i64 (okE (a + b))]) ∧ w = w' := by
  unfold inI at ha hb
  cases h : fits (a + b)
  · rw [okV_no h, okE_no h]
    rw [← Bool.not_eq_true, fits_iff] at h
    go_enter Try.func25, Try.ntmps25
    go_wp2
    all_goals
      first
        | omega
        | (go_ret2; exact ⟨rfl, rfl⟩)
        | (go_ret2; exact ⟨ret_two (by omega) (by omega), rfl⟩)
  · rw [okV_yes h, okE_yes h]
    rw [fits_iff] at h
    go_enter Try.func25, Try.ntmps25
    go_wp2
    all_goals
      first
        | (go_ret2; exact ⟨rfl, rfl⟩)
        | (go_ret2; exact ⟨ret_two (by omega) (by omega), rfl⟩)
        | omega
theorem rsub_c (a b : Int) (ha : inI a) (hb : inI b) (w : World) : Calls Try.prog 26 #[.int .i64 a, .int .i64 b] w fun e w' => e = .returned (.tuple #[.int .i64 (okV (a - b)), .int .i64 (okE (a - b))]) ∧ w = w' := by
  unfold inI at ha hb
  cases h : fits (a - b)
  · rw [okV_no h, okE_no h]
    rw [← Bool.not_eq_true, fits_iff] at h
    go_enter Try.func26, Try.ntmps26
    go_wp2
    all_goals
      first
        | omega
        | (go_ret2; exact ⟨rfl, rfl⟩)
        | (go_ret2; exact ⟨ret_two (by omega) (by omega), rfl⟩)
  · rw [okV_yes h, okE_yes h]
    rw [fits_iff] at h
    go_enter Try.func26, Try.ntmps26
    go_wp2
    all_goals
      first
        | (go_ret2; exact ⟨rfl, rfl⟩)
        | (go_ret2; exact ⟨ret_two (by omega) (by omega), rfl⟩)
        | omega
end Go.Proofs.Ythoagfoekopioaa
