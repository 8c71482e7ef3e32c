/- Code: the arguments' shapes. -/
import Derived.Test.YtphmaimgpolaoaaLw
import Derived.Test.YtphmaimgpolaoaaCc
import Derived.Deep.Slices
import Derived.SliceStrings
set_option linter.unusedVariables false
namespace Go.Proofs.Ytphmaimgpolaoaa
open Go.ChangeShapes Go.WideShapes Go.ChangeAt Go.RowKit Go.Deep

theorem bounds_u8' {x : Int} (h : (Lit.int .u8 x).wf = true) : 0 ≤ x ∧ x ≤ 255 := by simpa [Lit.wf, IntKind.min, IntKind.max, IntKind.signed, IntKind.bits] using h
section
variable {H : Type} {enc : TypeId × Value → H} {W : World} {base : Nat} {v : Value} {d : DataW H} {p : List MemPlace}
theorem open_bytes (hval : Value.okWide Try.prog W .any base 22 v) (h : DataW.Trod enc Try.prog W 0 (fun _ => true) true 22 v d p) :
    ∃ A n c bs, v = .slice A n c ∧ ReadsB W A n bs ∧ n ≤ c ∧ (n = 0 ∨ ∃ es sp, d = .slice es sp ∧ es.length = n) := by
  obtain ⟨a0, n, c, rfl⟩ := Go.WideShapes.okWide_slice Try.underlying22 hval
  obtain ⟨fuel, hf⟩ := h
  rcases open_slice1 Try.underlying22 (by kernel_rfl) hf with ⟨hcs, hx⟩ | ⟨a, len, cap, m, k, V, D, Pl, hcs, _, hle, hmax, hm, hx, hcell⟩
  · simp [Value.cells] at hcs
    obtain ⟨rfl, rfl, rfl⟩ := hcs
    exact ⟨none, 0, 0, [], rfl, ⟨rfl, by omega, fun h => absurd h (by omega)⟩, Nat.le_refl _, .inl rfl⟩
  · simp [Value.cells] at hcs
    obtain ⟨rfl, rfl, rfl⟩ := hcs
    simp only [if_true] at hm
    simp only [maxLen] at hmax
    obtain ⟨Z, hZ⟩ := choose_lt (α := UInt8) (n := n) (p := fun i z => W.cell? (a.add i) = some (.int .u8 z.toNat)) (fun i hi => by
      obtain ⟨h1, h2⟩ := hcell i (by omega)
      obtain ⟨x, e0, _, w0⟩ := DataW.trod_int Try.underlying5 h2
      simp at e0
      have hb := bounds_u8' w0
      refine ⟨UInt8.ofNat x.toNat, ?_⟩
      rw [h1, e0]
      congr 2
      rw [UInt8.toNat_ofNat_of_lt' (by show x.toNat < 256; omega)]
      omega)
    simp only [Prod.mk.injEq] at hx
    refine ⟨some a, n, c, (List.range n).map Z, rfl, ⟨by simp, by omega, fun _ => ⟨a, rfl, fun j hj => ?_⟩⟩, hle, .inr ⟨_, _, hx.1, by simp⟩⟩
    rw [hZ j hj]
    simp [List.getD_eq_getElem?_getD, hj]
theorem open_ints' (hval : Value.okWide Try.prog W .any base 37 v) (h : DataW.Trod enc Try.prog W 0 (fun _ => true) true 37 v d p) :
    ∃ A n c xs, v = .slice A n c ∧ ReadsI W A n xs ∧ (∀ x ∈ xs, -9223372036854775808 ≤ x ∧ x ≤ 9223372036854775807) ∧ (n = 0 ∨ ∃ es sp, d = .slice es sp ∧ es.length = n) := by
  obtain ⟨a0, n, c, rfl⟩ := Go.WideShapes.okWide_slice Try.underlying37 hval
  obtain ⟨fuel, hf⟩ := h
  rcases open_slice1 Try.underlying37 (by kernel_rfl) hf with ⟨hcs, hx⟩ | ⟨a, len, cap, m, k, V, D, Pl, hcs, _, hle, hmax, hm, hx, hcell⟩
  · simp [Value.cells] at hcs
    obtain ⟨rfl, rfl, rfl⟩ := hcs
    exact ⟨none, 0, 0, [], rfl, ReadsI.nil W, (fun x hx => by cases hx), .inl rfl⟩
  · simp [Value.cells] at hcs
    obtain ⟨rfl, rfl, rfl⟩ := hcs
    simp only [if_true] at hm
    simp only [maxLen] at hmax
    obtain ⟨Z, hZ⟩ := choose_lt (α := Int) (n := n) (p := fun i z => W.cell? (a.add i) = some (.int .i64 z) ∧ -9223372036854775808 ≤ z ∧ z ≤ 9223372036854775807) (fun i hi => by
      obtain ⟨h1, h2⟩ := hcell i (by omega)
      obtain ⟨x, e0, _, w0⟩ := DataW.trod_int Try.underlying3 h2
      simp at e0
      exact ⟨x, by rw [h1, e0], bounds_i64 w0⟩)
    simp only [Prod.mk.injEq] at hx
    refine ⟨some a, n, c, (List.range n).map Z, rfl, ⟨by simp, by omega, fun _ => ⟨a, rfl, fun j hj => ?_⟩⟩, fun x hx => ?_, .inr ⟨_, _, hx.1, by simp⟩⟩
    · rw [(hZ j hj).1]
      simp [List.getD_eq_getElem?_getD, hj]
    · obtain ⟨i, hi, rfl⟩ := List.mem_map.1 hx
      exact (hZ i (List.mem_range.1 hi)).2
theorem open_texts (hval : Value.okWide Try.prog W .any base 38 v) (h : DataW.Trod enc Try.prog W 0 (fun _ => true) true 38 v d p) :
    ∃ A n c ts, v = .slice A n c ∧ ReadsS W A n ts ∧ (n = 0 ∧ ts = [] ∨ ∃ sp, d = .slice (strs ts) sp) := by
  obtain ⟨a0, n, c, rfl⟩ := Go.WideShapes.okWide_slice Try.underlying38 hval
  obtain ⟨fuel, hf⟩ := h
  rcases open_strings Try.underlying38 Try.underlying9 (by kernel_rfl) hf with ⟨hcs, hx⟩ | ⟨a, len, cap, ss, hcs, _, hle, hmax, hm, hx, hcell, hss⟩
  · simp [Value.cells] at hcs
    obtain ⟨rfl, rfl, rfl⟩ := hcs
    exact ⟨none, 0, 0, [], rfl, ⟨rfl, by omega, fun h => absurd h (by omega)⟩, .inl ⟨rfl, rfl⟩⟩
  · simp [Value.cells] at hcs
    obtain ⟨rfl, rfl, rfl⟩ := hcs
    simp only [if_true] at hm
    simp only [maxLen] at hmax
    simp only [Prod.mk.injEq] at hx
    refine ⟨some a, n, c, ss.take n, rfl, ⟨by rw [List.length_take]; omega, by omega, fun _ => ⟨a, rfl, fun j hj => ?_⟩⟩, .inr ⟨_, hx.1⟩⟩
    rw [hcell j (by omega)]
    simp [List.getD_eq_getElem?_getD, hj]
end
end Go.Proofs.Ytphmaimgpolaoaa
