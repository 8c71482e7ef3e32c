/- A slice of numbers that came in. -/
import Derived.Test.YtmhbblkihjmonaaDoorLaw
import Derived.Test.YtmhbblkihjmonaaDoorB5
set_option linter.unusedVariables false
namespace Go.Proofs.YtmhbblkihjmonaaDoor
open Go.ChangeShapes Go.WideShapes Go.ChangeAt Go.RowKit
theorem open_nums {H : Type} {enc : TypeId × Value → H} {W : World} {base : Nat} {v : Value} {d : DataW H} {p : List MemPlace} (hc1 : Tryd.prog.cellsOf 3 = 1)
    (hval : Value.okWide Tryd.prog W .any base 29 v) (h : DataW.Trod enc Tryd.prog W 0 (fun _ => true) true 29 v d p) :
    ∃ A n c xs, v = .slice A n c ∧ ReadsI W A n xs ∧ ∀ x ∈ xs, -9223372036854775808 ≤ x ∧ x ≤ 9223372036854775807 := by
  obtain ⟨a0, n, c, rfl⟩ := Go.WideShapes.okWide_slice Tryd.underlying29 hval
  obtain ⟨fuel, hf⟩ := h
  rcases Go.ChangeShapes.open_ints Tryd.underlying29 Tryd.underlying3 hc1 hf with ⟨hcs, hx⟩ | ⟨a, len', cap', zs, hcs, _, hle, hmax, hall, hx, hcell, hwf⟩
  · simp [Value.cells] at hcs
    obtain ⟨rfl, rfl, rfl⟩ := hcs
    exact ⟨none, 0, 0, [], rfl, ReadsI.nil W, fun x hx => by cases hx⟩
  · simp [Value.cells] at hcs
    obtain ⟨rfl, rfl, rfl⟩ := hcs
    simp only [if_true] at hall
    simp only [maxLen] at hmax
    refine ⟨some a, n, c, zs.take n, rfl, ⟨by rw [List.length_take]; omega, by omega, fun _ => ⟨a, rfl, fun j hj => ?_⟩⟩, fun x hx => bounds_i64 (hwf x (List.mem_of_mem_take hx))⟩
    rw [hcell j (by omega)]
    simp [List.getD_eq_getElem?_getD, hj]
end Go.Proofs.YtmhbblkihjmonaaDoor
