/-
  PROVED: the given statement of marlinspikelaw02.SafeSums: sums are the document's.
  CONDITIONS: none beyond the row's own: over every input.
-/
import Derived.Test.YthoagfoekopioaaRows
import Derived.Test.YthoagfoekopioaaYa
import Derived.Test.YthoagfoekopioaaLz
import Derived.WalkKit
import Derived.ProofKit
import Derived.OpenShut
set_option linter.unusedVariables false
namespace Go.Proofs.Ythoagfoekopioaa.safeSums
open Go.ChangeShapes Go.WideShapes Go.ChangeAt Go.RowKit

theorem own : ownKnob Try.prog.godebug = none := by kernel_rfl
theorem laidOut : laidOutB Try.prog = true := by kernel_rfl
theorem cellsInt : Try.prog.cellsOf 3 = 1 := by kernel_rfl
theorem cellsArr : Try.prog.cellsOf 39 = 3 := by kernel_rfl
theorem readables : ∀ t ∈ (#[38, 39] : Array TypeId).toList, Try.prog.readableRec t = true ∧ t < Try.prog.types.size := by
  have hs : ∀ t ∈ [38, 39], Try.prog.readableRec t = true ∧ t < Try.prog.types.size := by
    intro t ht
    simp only [List.mem_cons, List.not_mem_nil, or_false] at ht
    rcases ht with rfl | rfl
    all_goals exact ⟨by kernel_rfl, of_decide_eq_true (by kernel_rfl)⟩
  exact hs

set_option maxRecDepth 100000 in
theorem lifted (os : Os) (started : os.Started) (H : Type) (enc : TypeId × Value → H) :
    ReturnsInHanded {} Try.checked os 6 .any (Rows.safeSumsSpec.pre6 enc Try.prog Try.f6 Rows.safeSumsRow.domain false) (Rows.safeSumsSpec.post enc Try.prog Try.f6 false true false false) := by
  refine returnsInHanded_of_change (C := Try.checked) own started (by kernel_rfl) Try.func6
    (ChangeSpec.witness6 (enc := enc) (C := Try.checked) false ⟨#[], #[.slice none 0 0, .agg #[.int .i64 0, .int .i64 0, .int .i64 0]], []⟩ 8 (by kernel_rfl) (by kernel_rfl) (by kernel_rfl) (by kernel_rfl)) ?_
  intro W base args ds gs before hval0 hW hcnd _
  have hval : ∀ (j : Nat) t v, Try.f6.params[j]? = some t → args[j]? = some v → Value.okWide Try.prog W .any base t v := hval0
  have hW' := hW
  obtain ⟨p, q, hA0, hV, rfl, hfz, hnd⟩ := hW
  have hA : DataW.TrodAll enc Try.prog W 0 (fun _ => true) true Try.f6.params.toList args.toList ds p := hA0
  rw [Try.params6] at hA hval
  obtain ⟨v0, vs0, d0, ds0, p0, q0, hargs0, hds0, hp0, h0, r0⟩ := trodAll_cons hA
  obtain ⟨v1, vs1, d1, ds1, p1, q1, hargs1, hds1, hp1, h1, r1⟩ := trodAll_cons r0
  obtain ⟨hvs, hdse, hpe⟩ := trodAll_nil r1
  obtain rfl : args = #[v0, v1] := by cases args; simp_all
  obtain rfl : ds = [d0, d1] := by simp_all
  obtain ⟨rfl, rfl⟩ := trodVars_none hV
  obtain ⟨A0, n0, c0, x0, rfl, hR0, hx0⟩ := open_nums cellsInt (hval 0 _ v0 rfl rfl) h0
  obtain ⟨x1, y1, z1, rfl⟩ := open_arr3 cellsArr cellsInt (hval 1 _ v1 rfl rfl) h1
  clear hA0 hval0 hA
  refine (safeSums_w A0 n0 c0 x0 x1 y1 z1 hx0 W hR0).mono fun e W' h => ?_
  obtain ⟨rfl, hb⟩ := h
  refine ⟨_, rfl, law_post laidOut hW' rfl (by rw [Try.params6]; exact readables) rfl rfl rfl rfl hb Try.underlying4⟩

theorem over : Rows.safeSumsRow.holds Try.pinned (OpenSpec.ofChange Rows.safeSumsSpec) :=
  OpenClaim.holds_of_wide 6 Try.f6 rfl rfl rfl rfl rfl rfl rfl ⟨rfl, rfl, rfl, rfl, rfl⟩ rfl rfl rfl rfl rfl (by kernel_rfl) Try.func6 (by kernel_rfl)
    (of_decide_eq_true (by kernel_rfl)) (by unfold Func.isWrapper; first | (rw [if_pos (by decide +kernel)]; kernel_rfl) | (rw [if_neg (by decide +kernel)]; exact ⟨rfl, rfl⟩))
    (fun os started H enc _ => lifted os started H enc)

/-- The statement. -/
theorem proved : Rows.SafeSumsSaid := over
end Go.Proofs.Ythoagfoekopioaa.safeSums
