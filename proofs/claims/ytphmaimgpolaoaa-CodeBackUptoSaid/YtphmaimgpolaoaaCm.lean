/- Code: what the bound on the bulk gives. -/
import Derived.Test.YtphmaimgpolaoaaRows
import Derived.Test.YtphmaimgpolaoaaC4
import Derived.SliceStrings
set_option linter.unusedVariables false
namespace Go.Proofs.Ytphmaimgpolaoaa
open Go.ChangeShapes

section
variable {H : Type}
theorem bulk_pos (d : DataW H) : 1 ≤ Rows.uptoBulk d := by
  cases d with
  | lit l => cases l <;> simp [Rows.uptoBulk]
  | _ => simp [Rows.uptoBulk]
theorem bulk_len : ∀ l : List (DataW H), l.length ≤ Rows.uptoBulkAll l
  | [] => by simp [Rows.uptoBulkAll]
  | d :: r => by have := bulk_pos d; have := bulk_len r; simp only [Rows.uptoBulkAll, List.length_cons]; omega
theorem bulk_text (s : ByteArray) : Rows.uptoBulk (DataW.lit (H := H) (.string s.data.toList)) = s.size + 1 := by
  simp only [Rows.uptoBulk]; rfl
theorem bulk_texts : ∀ ts : List ByteArray, Rows.uptoBulkAll (strs (H := H) ts) ≤ 1048576 → (encTs ts).length ≤ 10 * Rows.uptoBulkAll (strs (H := H) ts) ∧ ∀ t ∈ ts, t.size ≤ Rows.uptoBulkAll (strs (H := H) ts)
  | [], _ => ⟨by simp [encTs], fun t ht => by cases ht⟩
  | s :: r, h => by
    have e : Rows.uptoBulkAll (strs (H := H) (s :: r)) = s.size + 1 + Rows.uptoBulkAll (strs (H := H) r) := by rw [← bulk_text (H := H) s]; rfl
    rw [e] at h ⊢
    obtain ⟨h1, h2⟩ := bulk_texts r (by omega)
    have h3 := (encI_len (n := ((s.size : Nat) : Int)) (by omega) (by omega)).2
    refine ⟨?_, fun t ht => ?_⟩
    · have e2 : encTs (s :: r) = encT s ++ encTs r := by simp [encTs]
      have e3 : (encT s).length = (encI s.size).length + s.size := by unfold encT; rw [List.length_append]; rfl
      rw [e2, List.length_append, e3]
      omega
    · rcases List.mem_cons.1 ht with rfl | ht
      · omega
      · have := h2 t ht; omega
end
end Go.Proofs.Ytphmaimgpolaoaa
