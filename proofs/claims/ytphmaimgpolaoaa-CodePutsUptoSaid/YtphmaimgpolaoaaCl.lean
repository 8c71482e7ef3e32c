/- Code: nodes that came in. Printed by gen_co.py. -/
import Derived.Test.YtphmaimgpolaoaaCj
import Derived.Test.YtphmaimgpolaoaaC5
set_option linter.unusedVariables false
namespace Go.Proofs.Ytphmaimgpolaoaa
open Go.ChangeShapes Go.WideShapes Go.ChangeAt Go.RowKit
theorem bounds_u64' {x : Int} (h : (Lit.int .u64 x).wf = true) : 0 ≤ x ∧ x ≤ 18446744073709551615 := by simpa [Lit.wf, IntKind.min, IntKind.max, IntKind.signed, IntKind.bits] using h

theorem cof_uint64 {H : Type} {enc : TypeId × Value → H} {W : World} {base n : Nat} {sp : Nat → Bool} {hd : Bool} {c0 : Value} {x : DataW H × List MemPlace}
    (hf : DataW.trod enc Try.prog W base sp hd n 39 [c0] = some x) : ∃ i0 : Int, (c0 = .int .u64 i0) ∧ ((0 ≤ i0 ∧ i0 ≤ 18446744073709551615)) := by
  obtain ⟨x0, e0, rfl, w0⟩ := DataW.trod_int Try.underlying39 hf
  simp at e0
  subst e0
  exact ⟨x0, rfl, bounds_u64' w0⟩

theorem cof__4_uint64 {H : Type} {enc : TypeId × Value → H} {W : World} {base n : Nat} {sp : Nat → Bool} {hd : Bool} {c0 c1 c2 c3 : Value} {x : DataW H × List MemPlace}
    (hf : DataW.trod enc Try.prog W base sp hd n 41 [c0, c1, c2, c3] = some x) : ∃ i0 : Int, ∃ i1 : Int, ∃ i2 : Int, ∃ i3 : Int, (c0 = .int .u64 i0 ∧ c1 = .int .u64 i1 ∧ c2 = .int .u64 i2 ∧ c3 = .int .u64 i3) ∧ ((0 ≤ i0 ∧ i0 ≤ 18446744073709551615) ∧ (0 ≤ i1 ∧ i1 ≤ 18446744073709551615) ∧ (0 ≤ i2 ∧ i2 ≤ 18446744073709551615) ∧ (0 ≤ i3 ∧ i3 ≤ 18446744073709551615)) := by
  have h_cof_uint64 : Try.prog.cellsOf 39 = 1 := by kernel_rfl
  obtain ⟨xs, n, _, hx, hl, hlen, hg⟩ := DataW.trod_array Try.underlying41 hf
  match xs, hlen, hg with
  | [y0, y1, y2, y3], _, hg =>
    have g0 : DataW.trod enc Try.prog W base sp hd n 39 (([c0, c1, c2, c3] : List Value).drop (0 * Try.prog.cellsOf 39) |>.take (Try.prog.cellsOf 39)) = some y0 := hg 0 (by decide)
    rw [h_cof_uint64] at g0
    have g1 : DataW.trod enc Try.prog W base sp hd n 39 (([c0, c1, c2, c3] : List Value).drop (1 * Try.prog.cellsOf 39) |>.take (Try.prog.cellsOf 39)) = some y1 := hg 1 (by decide)
    rw [h_cof_uint64] at g1
    have g2 : DataW.trod enc Try.prog W base sp hd n 39 (([c0, c1, c2, c3] : List Value).drop (2 * Try.prog.cellsOf 39) |>.take (Try.prog.cellsOf 39)) = some y2 := hg 2 (by decide)
    rw [h_cof_uint64] at g2
    have g3 : DataW.trod enc Try.prog W base sp hd n 39 (([c0, c1, c2, c3] : List Value).drop (3 * Try.prog.cellsOf 39) |>.take (Try.prog.cellsOf 39)) = some y3 := hg 3 (by decide)
    rw [h_cof_uint64] at g3
    obtain ⟨v0, rfl, b0⟩ := cof_uint64 (c0 := c0) g0
    obtain ⟨v1, rfl, b1⟩ := cof_uint64 (c0 := c1) g1
    obtain ⟨v2, rfl, b2⟩ := cof_uint64 (c0 := c2) g2
    obtain ⟨v3, rfl, b3⟩ := cof_uint64 (c0 := c3) g3
    exact ⟨v0, v1, v2, v3, ⟨rfl, rfl, rfl, rfl⟩, ⟨b0, b1, b2, b3⟩⟩

theorem open_nodes {H : Type} {enc : TypeId × Value → H} {W : World} {base : Nat} {v : Value} {d : DataW H} {p : List MemPlace}
    (hval : Value.okWide Try.prog W .any base 41 v) (h : DataW.Trod enc Try.prog W 0 (fun _ => true) true 41 v d p) : ∃ x0 x1 x2 x3 : Nat, v = ndV x0 x1 x2 x3 ∧ (∀ k, wdAt x0 x1 x2 x3 k < 18446744073709551616) := by
  obtain ⟨cs, rfl, hsz, _⟩ : ∃ cs, v = .agg cs ∧ cs.size = Try.prog.cellsOf 41 ∧ Row.okWide Try.prog W .any base 41 cs := by
    simpa [Value.okWide, Try.underlying41] using hval
  rw [show Try.prog.cellsOf 41 = 4 by kernel_rfl] at hsz
  obtain ⟨l⟩ := cs
  obtain ⟨fuel, hf⟩ := h
  match l, hsz, hf with
  | [c0, c1, c2, c3], _, hf =>
    obtain ⟨v0, v1, v2, v3, ⟨rfl, rfl, rfl, rfl⟩, ⟨b0, b1, b2, b3⟩⟩ := cof__4_uint64 (c0 := c0) (c1 := c1) (c2 := c2) (c3 := c3) hf
    exact ⟨v0.toNat, v1.toNat, v2.toNat, v3.toNat, by unfold ndV; simp only [Int.toNat_of_nonneg b0.1, Int.toNat_of_nonneg b1.1, Int.toNat_of_nonneg b2.1, Int.toNat_of_nonneg b3.1], fun k => by unfold wdAt; split <;> omega⟩
end Go.Proofs.Ytphmaimgpolaoaa
