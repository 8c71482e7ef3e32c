/- A slice of numbers that is read. -/
import Derived.Below
import Derived.WalkKit
import Derived.Laws.AppendOwn
import Derived.Maps.AppendAt
import Derived.OwnWalk
import Derived.Laws.Rows
set_option linter.unusedVariables false
namespace Go.Proofs.Ytflgnlpippjhcaa
open Go.RowKit

/-! ### a slice of numbers that is read; one that the call owns -/
def nums (xs : List Int) : List Value := xs.map fun x => .int .i64 x
theorem nums_length (xs : List Int) : (nums xs).length = xs.length := by simp [nums]
theorem nums_append (xs ys : List Int) : nums (xs ++ ys) = nums xs ++ nums ys := by simp [nums]
/-- The slice value '.slice A n c' reads as the list xs. -/
def ReadsI (w : World) (A : Option Addr) (n : Nat) (xs : List Int) : Prop :=
  xs.length = n ∧ n ≤ 9223372036854775807 ∧ (0 < n → ∃ ad, A = some ad ∧ ∀ j, j < n → w.cell? (ad.add j) = some (.int .i64 (xs.getD j 0)))
theorem add_block (a : Addr) (n : Nat) : (a.add n).block = a.block := by unfold Addr.add; split <;> rfl
theorem add_plain (g j : Nat) : (⟨g, 0, none⟩ : Addr).add j = ⟨g, j, none⟩ := by unfold Addr.add; split <;> simp_all
theorem ReadsI.below {w w' : World} {A : Option Addr} {n : Nat} {xs : List Int} (h : ReadsI w A n xs) (hb : Below w.heap.size w w') : ReadsI w' A n xs :=
  ⟨h.1, h.2.1, fun hn => by
    obtain ⟨ad, e, hc⟩ := h.2.2 hn
    exact ⟨ad, e, fun j hj => (hb.cell (block_lt_of_cell (hc j hj))).trans (hc j hj)⟩⟩
theorem ReadsI.nil (w : World) : ReadsI w none 0 [] := ⟨rfl, by omega, fun h => absurd h (by omega)⟩
/-- In a later world: the k-th cell. -/
theorem ReadsI.at_ {w w' : World} {A : Option Addr} {n k : Nat} {xs : List Int} (h : ReadsI w A n xs) (hb : Below w.heap.size w w') (hk : k < n) : ∃ ad, A = some ad ∧ w'.cell? (ad.add k) = some (.int .i64 (xs.getD k 0)) := by
  obtain ⟨ad, e, hc⟩ := h.2.2 (by omega)
  exact ⟨ad, e, (hb.cell (block_lt_of_cell (hc k hk))).trans (hc k hk)⟩
theorem take_snoc (xs : List Int) (k : Nat) (h : k < xs.length) : xs.take (k + 1) = xs.take k ++ [xs.getD k 0] := by
  rw [List.take_succ_eq_append_getElem h]
  simp [List.getD_eq_getElem?_getD, List.getElem?_eq_getElem h]

end Go.Proofs.Ytflgnlpippjhcaa
