/- Prof: plain facts for alive. No program in sight. -/
import Derived.Test.YtkgdcicaokekfaaDoorFh
set_option linter.unusedVariables false
namespace Go.Proofs.YtkgdcicaokekfaaDoor
open Go.RowKit Go.Sort

abbrev k1 : NS := 1#256
abbrev k2 : NS := 2#256
abbrev k3 : NS := 3#256
theorem nsV_k1 : nsV k1 = .agg #[.int .u64 1, .int .u64 0, .int .u64 0, .int .u64 0] := by kernel_rfl
theorem nsV_k2 : nsV k2 = .agg #[.int .u64 2, .int .u64 0, .int .u64 0, .int .u64 0] := by kernel_rfl
theorem nsV_k3 : nsV k3 = .agg #[.int .u64 3, .int .u64 0, .int .u64 0, .int .u64 0] := by kernel_rfl
abbrev la0 : List (Sp NS) := [⟨0, k3⟩]
abbrev la1 : List (Sp NS) := [⟨0, k2⟩, ⟨10, k3⟩]
theorem good_one (nodes : NS) : Good [⟨0, nodes⟩] := ⟨by simp, trivial, by intro s hs; simp at hs; subst hs; show (0 : Int) < 2199023255552; decide, ⟨0, nodes⟩, [], rfl, rfl⟩
theorem k23 : k2 ≠ k3 := by decide
theorem good_la1 : Good la1 := ⟨by simp, ⟨by decide, k23, trivial⟩, by intro s hs; simp at hs; rcases hs with rfl | rfl <;> decide, ⟨0, k2⟩, [⟨10, k3⟩], rfl, rfl⟩
theorem turn_la0 : turnL 2199023255552 0 10 (fun f => notS f k1) [] la0 = la1 := by kernel_rfl
theorem dur_la0 : durS k3 la0 0 10 = k3 := by
  rw [← durS_eq (nodes := k3) (good_one k3).prf (by decide) (i := 0) (j := 0) ⟨by simp, by decide, by simp⟩ ⟨by simp, by decide, by simp⟩]
  decide
theorem takeE_la0 : takeE k3 la0 0 0 10 k1 = 0 := by
  unfold takeE
  rw [dur_la0, turn_la0, if_neg (by decide), if_neg (by decide), if_neg (by decide), if_neg (by decide)]
theorem takeL_la0 : takeL k3 la0 0 0 10 k1 = la1 := by
  unfold takeL
  rw [takeE_la0, if_pos rfl, turn_la0]
/-- What Earliest answers where there is enough. -/
theorem EarlP.is_ {nodes : NS} {l : List (Sp NS)} {t0 n long lo : Int} {of : NS} {e : Ending} {t : Int} (h : EarlP nodes l t0 n long lo of e) (hb : ¬ badAsk t0 n long lo) (ht : EarlAt nodes l n long lo of t) :
    e = .returned (.tuple #[.int .i64 t, nsV (firstS (durS nodes l t (t + long) &&& of) n), .int .i64 0]) := by
  cases h with
  | bad h1 => exact absurd h1 hb
  | none h1 h2 => exact absurd ht.will (h2 t ht.ge)
  | some h1 u hu =>
    have e := hu.uniq ht
    rw [e]
theorem dur_la1 : durS k3 la1 10 (10 + 5) = k3 := by
  rw [← durS_eq (nodes := k3) good_la1.prf (by decide) (i := 1) (j := 1) ⟨by simp, by decide, by simp⟩ ⟨by simp, by decide, by simp⟩]
  decide
theorem dur_la1' : durS k3 la1 0 (0 + 5) = k2 := by
  rw [← durS_eq (nodes := k3) good_la1.prf (by decide) (i := 0) (j := 0) ⟨by simp, by decide, by intro _; decide⟩ ⟨by simp, by decide, by intro _; decide⟩]
  decide
theorem cnt_k3 : cnt k3 = 2 := by decide +kernel
theorem cnt_k2 : cnt k2 = 1 := by decide +kernel
theorem early_two : EarlAt k3 la1 2 5 0 k3 10 where
  ge := by decide
  will := ⟨by decide, by rw [dur_la1, show k3 &&& k3 = k3 by decide, cnt_k3]; decide⟩
  least := fun u h1 h2 h3 => by
    have hs : subS (durS k3 la1 u (u + 5) &&& k3) k2 := fun b hb h4 => by
      rw [BitVec.getLsbD_and, Bool.and_eq_true] at h4
      have h5 := ((durS_bit good_la1.prf h1 (by omega) hb).1 h4.1).2 u (Int.le_refl _) (by omega)
      have h6 : frA emptyS la1 u = k2 := by
        show (if u < 10 then k2 else k3) = k2
        rw [if_pos h2]
      rwa [h6] at h5
    have h7 := hs.cnt
    have h8 := h3.2
    rw [cnt_k2] at h7
    omega
theorem early_one : EarlAt k3 la1 1 5 0 k3 0 where
  ge := by decide
  will := ⟨by decide, by rw [dur_la1', show k2 &&& k3 = k2 by decide, cnt_k2]; decide⟩
  least := fun u h1 h2 h3 => by omega
theorem first_two : firstS k3 2 = k3 := by decide +kernel
theorem first_one : firstS k2 1 = k2 := by decide +kernel
theorem earl_two {e : Ending} (h : EarlP k3 la1 0 2 5 0 k3 e) : e = .returned (.tuple #[.int .i64 10, .agg #[.int .u64 3, .int .u64 0, .int .u64 0, .int .u64 0], .int .i64 0]) := by
  rw [h.is_ (by unfold badAsk; omega) early_two, dur_la1, show k3 &&& k3 = k3 by decide, first_two, nsV_k3]
theorem earl_one {e : Ending} (h : EarlP k3 la1 0 1 5 0 k3 e) : e = .returned (.tuple #[.int .i64 0, .agg #[.int .u64 2, .int .u64 0, .int .u64 0, .int .u64 0], .int .i64 0]) := by
  rw [h.is_ (by unfold badAsk; omega) early_one, dur_la1', show k2 &&& k3 = k2 by decide, first_one, nsV_k2]
end Go.Proofs.YtkgdcicaokekfaaDoor
