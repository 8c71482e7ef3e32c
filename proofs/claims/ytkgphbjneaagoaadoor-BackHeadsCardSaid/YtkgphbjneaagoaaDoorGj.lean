/- Back: the pass of the small scene, in plain. No program in sight. -/
import Derived.Test.YtkgphbjneaagoaaDoorGa
set_option linter.unusedVariables false
set_option maxRecDepth 100000
namespace Go.Proofs.YtkgphbjneaagoaaDoor
open Go.RowKit Go.Sort

abbrev k1 : NS := 1#256
abbrev k2 : NS := 2#256
abbrev k3 : NS := 3#256
abbrev la0 : List (Sp NS) := [⟨0, k3⟩]
abbrev la1 : List (Sp NS) := [⟨0, k2⟩, ⟨10, k3⟩]
abbrev la2 : List (Sp NS) := [⟨0, k2⟩, ⟨10, emptyS⟩, ⟨15, k3⟩]
abbrev la3 : List (Sp NS) := [⟨0, emptyS⟩, ⟨15, k3⟩]
theorem goo_la0 : Goo 0 la0 := goo_one 0 k3 (by decide) (by decide)
theorem turn_la0 : turnL 2199023255552 0 10 (fun f => notS f k1) [] la0 = la1 := by kernel_rfl
theorem turn_la1 : turnL 2199023255552 10 15 (fun f => notS f k3) [] la1 = la2 := by kernel_rfl
theorem turn_la2 : turnL 2199023255552 0 10 (fun f => notS f k2) [] la2 = la3 := by kernel_rfl
theorem dur_la0 : durS k3 la0 0 10 = k3 := by
  rw [← durS_eq (nodes := k3) goo_la0.prf (by decide) (i := 0) (j := 0) ⟨by simp, by decide, by simp⟩ ⟨by simp, by decide, by simp⟩]
  decide
theorem takeE_la0 : takeE k3 la0 0 0 10 k1 = 0 := by
  unfold takeE
  rw [dur_la0, turn_la0, if_neg (by decide), if_neg (by decide), if_neg (by decide), if_neg (by decide)]
theorem takeL_la0 : takeL k3 la0 0 0 10 k1 = la1 := by
  unfold takeL
  rw [takeE_la0, if_pos rfl, turn_la0]
theorem goo_la1 : Goo 0 la1 := takeL_la0 ▸ goo_la0.take
theorem dur_la1 : durS k3 la1 10 (10 + 5) = k3 := by
  rw [← durS_eq (nodes := k3) goo_la1.prf (by decide) (i := 1) (j := 1) ⟨by simp, by decide, by simp⟩ ⟨by simp, by decide, by simp⟩]
  decide
theorem takeE_la1 : takeE k3 la1 0 10 15 k3 = 0 := by
  unfold takeE
  rw [show (15 : Int) = 10 + 5 from rfl, dur_la1, show (10 : Int) + 5 = 15 from rfl, turn_la1, if_neg (by decide), if_neg (by decide), if_neg (by decide), if_neg (by decide)]
theorem takeL_la1 : takeL k3 la1 0 10 15 k3 = la2 := by
  unfold takeL
  rw [takeE_la1, if_pos rfl, turn_la1]
theorem goo_la2 : Goo 0 la2 := takeL_la1 ▸ goo_la1.take
theorem dur_la2 : durS k3 la2 0 (0 + 10) = k2 := by
  rw [← durS_eq (nodes := k3) goo_la2.prf (by decide) (i := 0) (j := 0) ⟨by simp, by decide, by intro _; decide⟩ ⟨by simp, by decide, by intro _; decide⟩]
  decide
theorem takeE_la2 : takeE k3 la2 0 0 10 k2 = 0 := by
  unfold takeE
  rw [show (10 : Int) = 0 + 10 from rfl, dur_la2, show (0 : Int) + 10 = 10 from rfl, turn_la2, if_neg (by decide), if_neg (by decide), if_neg (by decide), if_neg (by decide)]
theorem takeL_la2 : takeL k3 la2 0 0 10 k2 = la3 := by
  unfold takeL
  rw [takeE_la2, if_pos rfl, turn_la2]
theorem goo_la3 : Goo 0 la3 := takeL_la2 ▸ goo_la2.take
theorem cnt_k3 : cnt k3 = 2 := by decide +kernel
theorem cnt_k2 : cnt k2 = 1 := by decide +kernel
theorem early_two : EarlAt k3 la1 2 5 0 k3 10 where
  ge := by decide
  will := ⟨by decide, by rw [dur_la1, show k3 &&& k3 = k3 by decide, cnt_k3]; decide⟩
  least := fun u h1 h2 h3 => by
    have hs : subS (durS k3 la1 u (u + 5) &&& k3) k2 := fun b hb h4 => by
      rw [BitVec.getLsbD_and, Bool.and_eq_true] at h4
      have h5 := ((durS_bit goo_la1.prf h1 (by omega) hb).1 h4.1).2 u (Int.le_refl _) (by omega)
      have h6 : frA emptyS la1 u = k2 := by
        show (if u < 10 then k2 else k3) = k2
        rw [if_pos h2]
      rwa [h6] at h5
    have h7 := hs.cnt
    have h8 := h3.2
    rw [cnt_k2] at h7
    omega
theorem early_one : EarlAt k3 la2 1 10 0 k3 0 where
  ge := by decide
  will := ⟨by decide, by rw [dur_la2, show k2 &&& k3 = k2 by decide, cnt_k2]; decide⟩
  least := fun u h1 h2 h3 => by omega
theorem first_two : firstS k3 2 = k3 := by decide +kernel
theorem first_one : firstS k2 1 = k2 := by decide +kernel
theorem plan_one : planO k3 la1 0 ⟨1, 2, 5, k3⟩ = some ⟨1, 10, k3⟩ := by
  unfold planO
  rw [earlT_some early_two]
  show some (Pl.mk 1 10 (firstS (durS k3 la1 10 (10 + 5) &&& k3) 2)) = _
  rw [dur_la1, show k3 &&& k3 = k3 by decide, first_two]
theorem plan_two : planO k3 la2 0 ⟨2, 1, 10, k3⟩ = some ⟨2, 0, k2⟩ := by
  unfold planO
  rw [earlT_some early_one]
  show some (Pl.mk 2 0 (firstS (durS k3 la2 0 (0 + 10) &&& k3) 1)) = _
  rw [dur_la2, show k2 &&& k3 = k2 by decide, first_one]
theorem plan_three {x : Pl} (h : planO k3 la3 0 ⟨3, 1, 20, k3⟩ = some x) : ¬ x.at_ = 0 := fun h0 => by
  have h1 := (planO_ok goo_la3 (w := ⟨3, 1, 20, k3⟩) ⟨by decide, by decide, by decide, by decide, by decide⟩ h).1
  have h2 := h1.free x.at_ (Int.le_refl _) (by show x.at_ < x.at_ + 20; omega)
  rw [h0] at h2
  have h3 := h2.cnt
  have h4 : cnt (frA emptyS la3 0) = 0 := by decide +kernel
  have h5 := h1.cnt
  have h6 : ((cnt x.nodes : Nat) : Int) = 1 := h5
  omega
abbrev smR : List Ru := [⟨k1, 10⟩]
abbrev smW : List Wi := [⟨1, 2, 5, k3⟩, ⟨2, 1, 10, k3⟩, ⟨3, 1, 20, k3⟩]
theorem sub_k {s t : NS} (h : s &&& t = s) : subS s t := fun b hb h1 => by
  rw [← h, BitVec.getLsbD_and, Bool.and_eq_true] at h1
  exact h1.2
theorem small_right : RightP 0 k3 smR smW where
  n0 := by decide
  n1 := by decide
  lr := by decide
  lw := by decide
  runs := ⟨fun r hr => by simp at hr; subst hr; exact ⟨by decide, by decide⟩, fun r hr => by simp at hr; subst hr; exact sub_k (by decide), List.pairwise_singleton _ _⟩
  wish := ⟨fun w hw => by
    simp at hw
    rcases hw with rfl | rfl | rfl <;> exact ⟨by decide, by decide, by decide, by decide, by decide⟩, by simp⟩
theorem small_busy : busyL 0 k3 smR = la1 := takeL_la0
theorem small_pass : (passP 1 k3 0 smR smW).s = [⟨2, 0, k2⟩] ∧ (passP 1 k3 0 smR smW).p = [⟨1, 10, k3⟩] := by
  have e1 : stepP 1 k3 0 (startP 0 k3 smR) ⟨1, 2, 5, k3⟩ = ⟨la2, [], [⟨1, 10, k3⟩], false⟩ := by
    unfold startP stepP
    rw [small_busy]
    simp only
    rw [plan_one]
    simp only [keeps, PS.keep]
    rw [show (10 : Int) + 5 = 15 from rfl, takeL_la1]
    simp
  have e2 : stepP 1 k3 0 ⟨la2, [], [⟨1, 10, k3⟩], false⟩ ⟨2, 1, 10, k3⟩ = ⟨la3, [⟨2, 0, k2⟩], [⟨1, 10, k3⟩], false⟩ := by
    unfold stepP
    simp only
    rw [plan_two]
    simp only [PS.keep]
    rw [show (0 : Int) + 10 = 10 from rfl, takeL_la2]
    simp
  have e3 : (stepP 1 k3 0 ⟨la3, [⟨2, 0, k2⟩], [⟨1, 10, k3⟩], false⟩ ⟨3, 1, 20, k3⟩) = ⟨la3, [⟨2, 0, k2⟩], [⟨1, 10, k3⟩], false⟩ := by
    unfold stepP
    simp only
    cases h : planO k3 la3 0 ⟨3, 1, 20, k3⟩ with
    | none => simp
    | some x =>
      simp only
      rw [if_neg (plan_three h)]
      simp [keeps]
  have e : passP 1 k3 0 smR smW = ⟨la3, [⟨2, 0, k2⟩], [⟨1, 10, k3⟩], false⟩ := by
    show stepP 1 k3 0 (stepP 1 k3 0 (stepP 1 k3 0 (startP 0 k3 smR) ⟨1, 2, 5, k3⟩) ⟨2, 1, 10, k3⟩) ⟨3, 1, 20, k3⟩ = _
    rw [e1, e2, e3]
  rw [e]
  exact ⟨rfl, rfl⟩
/-- A block that holds structs one behind the other is read as a slice. -/
theorem rds_blk {α : Type} {k : Nat} {c : α → List Value} (hk : ∀ x, (c x).length = k) {W : World} {g : Nat} {t : TypeId} {cs : Array Value} {l : List α} (h : Blk W g t cs) (hl : l.length ≤ 1000) (hcs : cs = (l.flatMap c).toArray) : RdS k c W (some ⟨g, 0, none⟩) l.length l := by
  subst hcs
  refine ⟨rfl, by omega, fun _ => ⟨_, rfl, fun i x hx j v hj => ?_⟩⟩
  have hj2 : j < k := by
    have := (List.getElem?_eq_some_iff.1 hj).1
    rwa [hk] at this
  rw [add_at, add_at, h.cell, ← hj, ← flat_get hk l i j x hx hj2, Nat.zero_add]
  exact List.getElem?_toArray
end Go.Proofs.YtkgphbjneaagoaaDoor
