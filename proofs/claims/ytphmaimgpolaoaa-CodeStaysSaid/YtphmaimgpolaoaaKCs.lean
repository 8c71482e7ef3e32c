/-
  PROVED: the given statement of marlinspikelaw04.CodeStays: behind a fault nothing is got, and it and the place stay.
  CONDITIONS: none beyond the row's own: over every input (the walk uses the reach that the form itself sets to a slice and a string).
-/
import Derived.Test.YtphmaimgpolaoaaRows
import Derived.Test.YtphmaimgpolaoaaCj
import Derived.Test.YtphmaimgpolaoaaCk
import Derived.WalkKit
import Derived.ProofKit
import Derived.OpenShut
import Derived.SizedLaws
set_option linter.unusedVariables false
namespace Go.Proofs.Ytphmaimgpolaoaa.codeStays
open Go.ChangeShapes Go.WideShapes Go.ChangeAt Go.RowKit

theorem own : ownKnob Try.prog.godebug = none := by kernel_rfl
theorem laidOut : laidOutB Try.prog = true := by kernel_rfl
theorem readables : ∀ t ∈ (#[22, 48] : Array TypeId).toList, Try.prog.readableRec t = true ∧ t < Try.prog.types.size := by
  have hs : ∀ t ∈ [22, 48], Try.prog.readableRec t = true ∧ t < Try.prog.types.size := by
    intro t ht
    simp only [List.mem_cons, List.not_mem_nil, or_false] at ht
    rcases ht with rfl | rfl
    all_goals exact ⟨by kernel_rfl, of_decide_eq_true (by kernel_rfl)⟩
  exact fun t ht => hs t (by simpa using ht)

/-- What the walk gives. -/
theorem contract (H : Type) (enc : TypeId × Value → H) (W : World) (base : Nat) (args : Array Value) (ds gs : List (DataW H)) (before : List MemPlace)
    (hval0 : ∀ (j : Nat) t v, Try.f5.params[j]? = some t → args[j]? = some v → Value.okWide Try.prog W .any base t v)
    (hW : DataW.Whole enc Try.prog Try.f5.params.toList Rows.codeStaysSpec.vars false W args.toList ds gs before) (hsz : (DataW.weightsEach Try.prog (Try.f5.params.toList ++ Rows.codeStaysSpec.plain.varTypes Try.prog) (ds ++ gs)).all (· ≤ reachBytes) = true) :
    Calls Try.prog 5 args W fun e W' => ∃ v, e = .returned v ∧ Rows.codeStaysSpec.post enc Try.prog Try.f5 false true false false W args v W' := by
  have hval : ∀ (j : Nat) t v, Try.f5.params[j]? = some t → args[j]? = some v → Value.okWide Try.prog W .any base t v := hval0
  have hW' := hW
  obtain ⟨p, q, hA0, hV, rfl, hfz, hnd⟩ := hW
  have hA : DataW.TrodAll enc Try.prog W 0 (fun _ => true) true Try.f5.params.toList args.toList ds p := hA0
  rw [Try.params5] at hA hval
  obtain ⟨v0, vs0, d0, ds0, p0, q0, hargs0, hds0, hp0, h0, r0⟩ := trodAll_cons hA
  obtain ⟨v1, vs1, d1, ds1, p1, q1, hargs1, hds1, hp1, h1, r1⟩ := trodAll_cons r0
  obtain ⟨hvs, hdse, hpe⟩ := trodAll_nil r1
  obtain rfl : args = #[v0, v1] := by cases args; simp_all
  obtain rfl : ds = [d0, d1] := by simp_all
  obtain ⟨rfl, rfl⟩ := trodVars_none hV
  rw [Try.params5] at hsz
  obtain ⟨A0, n0, c0, bs0, rfl, hR0, hnc0, hd0⟩ := open_bytes (hval 0 _ v0 rfl rfl) h0
  obtain ⟨A1, n1, c1, l1, rfl, hR1, hd1⟩ := open_acts (hval 1 _ v1 rfl rfl) h1
  have hn0 : n0 ≤ 140737488351232 := by
    rcases hd0 with h | ⟨es, sp, rfl, hl⟩
    · omega
    · have h := sized_slice (j := 0) (t := 22) (e := 5) (elems := es) (spare := sp) hsz rfl rfl Try.underlying22
      rw [show Try.prog.bytesOf 5 = 1 by kernel_rfl] at h
      have hr : reachBytes = 140737488351232 := rfl
      omega
  have hn1 : n1 ≤ 140737488351232 := by
    rcases hd1 with h | ⟨es, sp, rfl, hl⟩
    · omega
    · have h := sized_slice (j := 1) (t := 48) (e := 50) (elems := es) (spare := sp) hsz rfl rfl Try.underlying48
      rw [show Try.prog.bytesOf 50 = 24 by kernel_rfl] at h
      have hr : reachBytes = 140737488351232 := rfl
      omega
  clear hA0 hval0 hA
  refine (codeStays_w A0 n0 c0 bs0 A1 n1 c1 l1 _ hR0 (by omega) hnc0 hR1 (by omega)).mono fun e W' h => ?_
  obtain ⟨rfl, hb⟩ := h
  refine ⟨_, rfl, law_post laidOut hW' rfl (by rw [Try.params5]; exact readables) rfl rfl rfl rfl hb Try.underlying4⟩

set_option maxRecDepth 100000 in
theorem lifted (os : Os) (started : os.Started) (H : Type) (enc : TypeId × Value → H) :
    ReturnsInHanded {} Try.checked os 5 .any (Rows.codeStaysSpec.pre6 enc Try.prog Try.f5 Rows.codeStaysRow.domain false) (Rows.codeStaysSpec.post enc Try.prog Try.f5 false true false false) := by
  refine returnsInHanded_of_change_sized (C := Try.checked) own started (by kernel_rfl) Try.func5
    (ChangeSpec.witness6 (enc := enc) (C := Try.checked) false ⟨#[], #[.slice none 0 0, .slice none 0 0], []⟩ 8 (by kernel_rfl) (by kernel_rfl) (by kernel_rfl) (by kernel_rfl)) ?_
  intro W base args ds gs before hval0 hW hcnd hsz _
  exact contract H enc W base args ds gs before hval0 hW hsz

theorem over : Rows.codeStaysRow.holds Try.pinned (OpenSpec.ofChange Rows.codeStaysSpec) :=
  OpenClaim.holds_of_wide 5 Try.f5 rfl rfl rfl rfl rfl rfl rfl ⟨rfl, rfl, rfl, rfl, rfl⟩ rfl rfl rfl rfl rfl (by kernel_rfl) Try.func5 (by kernel_rfl)
    (of_decide_eq_true (by kernel_rfl)) (by unfold Func.isWrapper; first | (rw [if_pos (by decide +kernel)]; kernel_rfl) | (rw [if_neg (by decide +kernel)]; exact ⟨rfl, rfl⟩))
    (fun os started H enc _ => lifted os started H enc)

/-- The statement. -/
theorem proved : Rows.CodeStaysSaid := over
end Go.Proofs.Ytphmaimgpolaoaa.codeStays
