/-
  PROVED: the given statement of marlinspikelaw04.CodePuts: what is put is the document's.
  CONDITIONS: the second form: where what is read is of bulk at most 1048576.
-/
import Derived.Test.YtphmaimgpolaoaaRows
import Derived.Test.YtphmaimgpolaoaaCl
import Derived.Test.YtphmaimgpolaoaaCm
import Derived.Test.YtphmaimgpolaoaaCh
import Derived.WalkKit
import Derived.ProofKit
import Derived.OpenShut
import Derived.JoinedCond
set_option linter.unusedVariables false
namespace Go.Proofs.Ytphmaimgpolaoaa.codePuts
open Go.ChangeShapes Go.WideShapes Go.ChangeAt Go.RowKit

theorem own : ownKnob Try.prog.godebug = none := by kernel_rfl
theorem laidOut : laidOutB Try.prog = true := by kernel_rfl
theorem readables : ∀ t ∈ (#[37, 38, 41] : Array TypeId).toList, Try.prog.readableRec t = true ∧ t < Try.prog.types.size := by
  have hs : ∀ t ∈ [37, 38, 41], Try.prog.readableRec t = true ∧ t < Try.prog.types.size := by
    intro t ht
    simp only [List.mem_cons, List.not_mem_nil, or_false] at ht
    rcases ht with rfl | rfl | rfl
    all_goals exact ⟨by kernel_rfl, of_decide_eq_true (by kernel_rfl)⟩
  exact fun t ht => hs t (by simpa using ht)

/-- What the walk gives. -/
theorem contract (H : Type) (enc : TypeId × Value → H) (W : World) (base : Nat) (args : Array Value) (ds gs : List (DataW H)) (before : List MemPlace)
    (hval0 : ∀ (j : Nat) t v, Try.f4.params[j]? = some t → args[j]? = some v → Value.okWide Try.prog W .any base t v)
    (hW : DataW.Whole enc Try.prog Try.f4.params.toList Rows.codePutsSpec.vars false W args.toList ds gs before) (hk : Rows.uptoSmall H (ds ++ gs) = true) :
    Calls Try.prog 4 args W fun e W' => ∃ v, e = .returned v ∧ Rows.codePutsSpec.post enc Try.prog Try.f4 false true false false W args v W' := by
  have hval : ∀ (j : Nat) t v, Try.f4.params[j]? = some t → args[j]? = some v → Value.okWide Try.prog W .any base t v := hval0
  have hW' := hW
  obtain ⟨p, q, hA0, hV, rfl, hfz, hnd⟩ := hW
  have hA : DataW.TrodAll enc Try.prog W 0 (fun _ => true) true Try.f4.params.toList args.toList ds p := hA0
  rw [Try.params4] at hA hval
  obtain ⟨v0, vs0, d0, ds0, p0, q0, hargs0, hds0, hp0, h0, r0⟩ := trodAll_cons hA
  obtain ⟨v1, vs1, d1, ds1, p1, q1, hargs1, hds1, hp1, h1, r1⟩ := trodAll_cons r0
  obtain ⟨v2, vs2, d2, ds2, p2, q2, hargs2, hds2, hp2, h2, r2⟩ := trodAll_cons r1
  obtain ⟨hvs, hdse, hpe⟩ := trodAll_nil r2
  obtain rfl : args = #[v0, v1, v2] := by cases args; simp_all
  obtain rfl : ds = [d0, d1, d2] := by simp_all
  obtain ⟨rfl, rfl⟩ := trodVars_none hV
  obtain ⟨A0, n0, c0, xs0, rfl, hR0, hx0, hd0⟩ := open_ints' (hval 0 _ v0 rfl rfl) h0
  obtain ⟨A1, n1, c1, ts1, rfl, hR1, hd1⟩ := open_texts (hval 1 _ v1 rfl rfl) h1
  obtain ⟨x0, x1, x2, x3, rfl, hw⟩ := open_nodes (hval 2 _ v2 rfl rfl) h2
  have hkb : Rows.uptoBulkAll ([d0, d1, d2] ++ []) ≤ 1048576 := of_decide_eq_true hk
  simp only [List.append_nil, Rows.uptoBulkAll] at hkb
  have hn0 : n0 ≤ 1048576 := by
    rcases hd0 with h | ⟨es, sp, rfl, hl⟩
    · omega
    · have := bulk_len es
      simp only [Rows.uptoBulk] at hkb
      omega
  have hT : n1 ≤ 1048576 ∧ (encTs ts1).length ≤ 17592186044416 ∧ ∀ t ∈ ts1, t.size ≤ 1099511627776 := by
    rcases hd1 with ⟨h, rfl⟩ | ⟨sp, rfl⟩
    · exact ⟨by omega, by simp [encTs], fun t ht => by cases ht⟩
    · simp only [Rows.uptoBulk] at hkb
      obtain ⟨h1, h2⟩ := bulk_texts (H := H) ts1 (by omega)
      have h3 := bulk_len (strs (H := H) ts1)
      have h4 : (strs (H := H) ts1).length = n1 := by rw [← hR1.1]; exact List.length_map ..
      exact ⟨by omega, by omega, fun t ht => by have := h2 t ht; omega⟩
  clear hA0 hval0 hA
  refine (codePuts_w A0 n0 c0 xs0 A1 n1 c1 ts1 x0 x1 x2 x3 _ hR0 hx0 (by omega) hR1 (by omega) (by omega) hw).mono fun e W' h => ?_
  obtain ⟨rfl, hb⟩ := h
  refine ⟨_, rfl, law_post laidOut hW' rfl (by rw [Try.params4]; exact readables) rfl rfl rfl rfl hb Try.underlying4⟩

set_option maxRecDepth 100000 in
theorem lifted (os : Os) (started : os.Started) (H : Type) (enc : TypeId × Value → H) (F : Stop.Interp) :
    ReturnsInHanded {} Try.checked os 4 .any ((Rows.OpenSpec.upto Rows.codePutsSpec).pre6 enc Try.prog Try.f4 Rows.codePutsUptoRow.domain false) (((Rows.OpenSpec.upto Rows.codePutsSpec).at F).post enc Try.prog Try.f4 false true false false) := by
  refine returnsInHanded_of_cond (C := Try.checked) (s := Rows.OpenSpec.upto Rows.codePutsSpec) (k := Rows.uptoSmall) rfl own started (by kernel_rfl) Try.func4
    (OpenSpec.witness (enc := enc) (C := Try.checked) (s := Rows.OpenSpec.upto Rows.codePutsSpec) (k := Rows.uptoSmall) rfl false ⟨#[], #[.slice none 0 0, .slice none 0 0, .agg #[.int .u64 0, .int .u64 0, .int .u64 0, .int .u64 0]], []⟩ 8 (by kernel_rfl) (by kernel_rfl) (by kernel_rfl)
      (x := ([.nil, .nil, .agg [.lit (.int .u64 0), .lit (.int .u64 0), .lit (.int .u64 0), .lit (.int .u64 0)]], [], [])) (by kernel_rfl) rfl (by kernel_rfl)) ?_
  intro W base args ds gs before hval hW _ hk _
  exact contract H enc W base args ds gs before hval hW hk

theorem over : Rows.codePutsUptoRow.holds Try.pinned (Rows.OpenSpec.upto Rows.codePutsSpec) :=
  OpenClaim.holds_of_cond 4 Try.f4 rfl rfl rfl rfl rfl rfl rfl ⟨rfl, rfl, rfl, rfl, rfl⟩ rfl rfl rfl rfl rfl (by kernel_rfl) Try.func4 (by kernel_rfl)
    (of_decide_eq_true (by kernel_rfl)) (by unfold Func.isWrapper; first | (rw [if_pos (by decide +kernel)]; kernel_rfl) | (rw [if_neg (by decide +kernel)]; exact ⟨rfl, rfl⟩))
    (fun os started H enc _ F => lifted os started H enc F)

/-- The statement. -/
theorem proved : Rows.CodePutsUptoSaid := over
end Go.Proofs.Ytphmaimgpolaoaa.codePuts
