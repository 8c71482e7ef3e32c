/-
  PROVED: the given statement of marlinspikelaw14.ShareNobody: a ledger that nobody made answers an error, and has nothing.
  CONDITIONS: none beyond the row's own: over every input.
-/
import Derived.Test.YtflgnlpippjhcaaRows
import Derived.Test.YtflgnlpippjhcaaU7
import Derived.Test.YtflgnlpippjhcaaU8
import Derived.WalkKit
import Derived.ProofKit
import Derived.OpenShut
set_option linter.unusedVariables false
namespace Go.Proofs.Ytflgnlpippjhcaa.shareNobody
open Go.ChangeShapes Go.WideShapes Go.ChangeAt Go.RowKit

theorem own : ownKnob Try.prog.godebug = none := by kernel_rfl
theorem laidOut : laidOutB Try.prog = true := by kernel_rfl
theorem readables : ∀ t ∈ (#[24] : Array TypeId).toList, Try.prog.readableRec t = true ∧ t < Try.prog.types.size := by
  have hs : ∀ t ∈ [24], Try.prog.readableRec t = true ∧ t < Try.prog.types.size := by
    intro t ht
    simp only [List.mem_cons, List.not_mem_nil, or_false] at ht
    rcases ht with rfl
    all_goals exact ⟨by kernel_rfl, of_decide_eq_true (by kernel_rfl)⟩
  exact fun t ht => hs t (by simpa using ht)

set_option maxRecDepth 100000 in
theorem lifted (os : Os) (started : os.Started) (H : Type) (enc : TypeId × Value → H) :
    ReturnsInHanded {} Try.checked os 7 .any (Rows.shareNobodySpec.pre6 enc Try.prog Try.f7 Rows.shareNobodyRow.domain false) (Rows.shareNobodySpec.post enc Try.prog Try.f7 false true false false) := by
  refine returnsInHanded_of_change (C := Try.checked) own started (by kernel_rfl) Try.func7
    (ChangeSpec.witness6 (enc := enc) (C := Try.checked) false ⟨#[], #[.agg #[.string .empty, .int .i64 0, .int .i64 0]], []⟩ 8 (by kernel_rfl) (by kernel_rfl) (by kernel_rfl) (by kernel_rfl)) ?_
  intro W base args ds gs before hval0 hW hcnd _
  have hval : ∀ (j : Nat) t v, Try.f7.params[j]? = some t → args[j]? = some v → Value.okWide Try.prog W .any base t v := hval0
  have hW' := hW
  obtain ⟨p, q, hA0, hV, rfl, hfz, hnd⟩ := hW
  have hA : DataW.TrodAll enc Try.prog W 0 (fun _ => true) true Try.f7.params.toList args.toList ds p := hA0
  rw [Try.params7] at hA hval
  obtain ⟨v0, vs0, d0, ds0, p0, q0, hargs0, hds0, hp0, h0, r0⟩ := trodAll_cons hA
  obtain ⟨hvs, hdse, hpe⟩ := trodAll_nil r0
  obtain rfl : args = #[v0] := by cases args; simp_all
  obtain rfl : ds = [d0] := by simp_all
  obtain ⟨rfl, rfl⟩ := trodVars_none hV
  obtain ⟨a0, rfl, ha0⟩ := open_ak (hval 0 _ v0 rfl rfl) h0
  clear hA0 hval0 hA
  refine (shareNobody_w a0.n a0.am a0.now _ ha0.1).mono fun e W' h => ?_
  obtain ⟨rfl, hb⟩ := h
  refine ⟨_, rfl, law_post laidOut hW' rfl (by rw [Try.params7]; exact readables) rfl rfl rfl rfl hb Try.underlying4⟩

theorem over : Rows.shareNobodyRow.holds Try.pinned (OpenSpec.ofChange Rows.shareNobodySpec) :=
  OpenClaim.holds_of_wide 7 Try.f7 rfl rfl rfl rfl rfl rfl rfl ⟨rfl, rfl, rfl, rfl, rfl⟩ rfl rfl rfl rfl rfl (by kernel_rfl) Try.func7 (by kernel_rfl)
    (of_decide_eq_true (by kernel_rfl)) (by unfold Func.isWrapper; first | (rw [if_pos (by decide +kernel)]; kernel_rfl) | (rw [if_neg (by decide +kernel)]; exact ⟨rfl, rfl⟩))
    (fun os started H enc _ => lifted os started H enc)

/-- The statement. -/
theorem proved : Rows.ShareNobodySaid := over
end Go.Proofs.Ytflgnlpippjhcaa.shareNobody
