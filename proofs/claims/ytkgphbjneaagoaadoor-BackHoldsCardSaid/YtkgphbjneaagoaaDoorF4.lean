/- Prof: steps that are read; the search. -/
import Derived.Test.YtkgphbjneaagoaaDoorF3
set_option linter.unusedVariables false
namespace Go.Proofs.YtkgphbjneaagoaaDoor
open Go.RowKit Go.Sort

/-- The slice value '.slice A n c' reads as these steps. -/
def ReadsP (w : World) (A : Option Addr) (n : Nat) (l : List (Sp NS)) : Prop :=
  l.length = n ∧ n ≤ 9223372036854775807 ∧ (0 < n → ∃ ad, A = some ad ∧ ∀ i, i < n → ∀ j v, (spL (stp emptyS l i))[j]? = some v → w.cell? ((ad.add (i * 5)).add j) = some v)
theorem ReadsP.below {w w' : World} {A : Option Addr} {n : Nat} {xs : List (Sp NS)} (h : ReadsP w A n xs) (hb : Below w.heap.size w w') : ReadsP w' A n xs :=
  ⟨h.1, h.2.1, fun hn => by
    obtain ⟨ad, e, hc⟩ := h.2.2 hn
    exact ⟨ad, e, fun i hi j v hv => (hb.cell (block_lt_of_cell (hc i hi j v hv))).trans (hc i hi j v hv)⟩⟩
theorem stp_bounds {l : List (Sp NS)} {t0 E : Int} (hP : Prf t0 E l) {i : Nat} (hi : i < l.length) : t0 ≤ (stp emptyS l i).at_ ∧ (stp emptyS l i).at_ < E := by
  refine ⟨?_, hP.lt _ (stp_mem _ hi)⟩
  obtain ⟨x, r, rfl, e2⟩ := hP.first
  rcases Nat.eq_zero_or_pos i with rfl | h3
  · show t0 ≤ x.at_; omega
  · have h4 := stp_lt emptyS (l := x :: r) hP.can h3 hi
    have h5 : (stp emptyS (x :: r) 0).at_ = x.at_ := rfl
    omega
/-- What the search answers: how many steps are ahead of t, and whether one is at it. -/
def FoundP (l : List (Sp NS)) (n : Nat) (t : Int) (e : Ending) : Prop := ∃ a : Nat, a ≤ n ∧ e = .returned (.tuple #[.int .i64 (a : Nat), .bool (decide (a < n ∧ (stp emptyS l a).at_ = t))]) ∧ (∀ k, k < a → (stp emptyS l k).at_ < t) ∧ (∀ k, a ≤ k → k < n → t ≤ (stp emptyS l k).at_)

set_option maxRecDepth 100000 in
set_option maxHeartbeats 8000000 in
theorem bsf_c (A : Option Addr) (n c : Nat) (l : List (Sp NS)) (t t0 : Int) (w : World) (hR : ReadsP w A n l) (hn : n ≤ 1048576) (hP : Prf t0 2199023255552 l) (h0 : 0 ≤ t0) (ht : t0 ≤ t ∧ t ≤ 2199023255552) :
    Calls Tryd.prog 68 #[.slice A n c, .int .i64 t, .func (.func 69) #[] #[]] w fun e w' =>
      FoundP l n t e ∧ Below w.heap.size w w' := by
  have HR := Lib.hid hR
  have HP := Lib.hid hP
  have HT := Lib.hid ht
  have HN := Lib.hid hn
  have H0 := Lib.hid h0
  have hnI : (n : Int) ≤ 1048576 := by omega
  clear hR hP ht hn h0
  go_enter Tryd.func68, Tryd.ntmps68
  go_wp2_with fail
  go_loopw [9, 10] (fun i j wr => ∃ a b : Nat, a ≤ b ∧ b ≤ n ∧ i = .int .i64 (a : Nat) ∧ j = .int .i64 (b : Nat) ∧ Hid (∀ k, k < a → (stp emptyS l k).at_ < t) ∧ Hid (∀ k, b ≤ k → k < n → t ≤ (stp emptyS l k).at_) ∧ Hid (Ms w noB [] wr)) (fun i j _ => (intOf j).toNat - (intOf i).toNat)
  case atStart => exact ⟨0, n, by omega, by omega, rfl, rfl, Lib.hid (fun k hk => by omega), Lib.hid (fun k h1 h2 => by omega), Lib.hid (Ms.nil _ _)⟩
  case round =>
    obtain ⟨a, b, hab, hbn, rfl, rfl, HA, HB, HW⟩ := hrel
    by_cases hlt : a < b
    · have hltI : (a : Int) < (b : Int) := by omega
      have hmn : (a + b) / 2 < n := by omega
      have hbI : (b : Int) ≤ 1048576 := by omega
      obtain ⟨ad, hAe, hcx⟩ := (HR.out.below HW.out.below).2.2 (by omega)
      have HC := Lib.hid (hcx ((a + b) / 2) hmn)
      clear hcx
      subst hAe
      obtain ⟨s, hs⟩ : ∃ s, s = stp emptyS l ((a + b) / 2) := ⟨_, rfl⟩
      rw [← hs] at HC
      have HS := Lib.hid hs
      have hsb : 0 ≤ s.at_ ∧ s.at_ ≤ 2199023255552 := by
        have h1 := stp_bounds HP.out (i := (a + b) / 2) (by rw [HR.out.1]; exact hmn)
        rw [← hs] at h1
        have := H0.out
        omega
      clear hs
      go_wp2_with (refine wpList_load_ad (by kernel_rfl) 113 _ rfl (ad.add ((a + b) / 2 * 5)) (spL s) HC.out rfl _ (spV s) rfl Tryd.underlying113 rfl (by kernel_rfl) ?_)
      refine (cmp_c s t _ hsb (by have := HT.out; have := H0.out; omega)).mono ?_
      rintro e W1 ⟨rfl, hb⟩
      have HW1 := Lib.hid (HW.out.after hb)
      clear hb HW HC
      by_cases hc : s.at_ < t
      · have hcI : s.at_ - t < 0 := by omega
        go_wp2_with fail
        refine ⟨⟨(a + b) / 2 + 1, b, by omega, hbn, by go_num, rfl, Lib.hid (fun k hk => ?_), HB, HW1⟩, by simp [intOf]; omega⟩
        rcases Nat.lt_or_ge k ((a + b) / 2) with h5 | h5
        · have h6 := stp_lt emptyS HP.out.can h5 (by rw [HR.out.1]; exact hmn)
          rw [← HS.out] at h6
          omega
        · have e : k = (a + b) / 2 := by omega
          rw [e, ← HS.out]; exact hc
      · have hcI : ¬ s.at_ - t < 0 := by omega
        go_wp2_with fail
        refine ⟨⟨a, (a + b) / 2, by omega, by omega, rfl, by go_num, HA, Lib.hid (fun k h3 h4 => ?_), HW1⟩, by simp [intOf]; omega⟩
        rcases Nat.lt_or_ge ((a + b) / 2) k with h5 | h5
        · have h6 := stp_lt emptyS HP.out.can h5 (by rw [HR.out.1]; exact h4)
          rw [← HS.out] at h6
          omega
        · have e : k = (a + b) / 2 := by omega
          rw [e, ← HS.out]; omega
    · have hltI : ¬ (a : Int) < (b : Int) := by omega
      have hab2 : a = b := by omega
      subst hab2
      by_cases han : a < n
      · have hanI : (a : Int) < (n : Int) := by omega
        obtain ⟨ad, hAe, hcx⟩ := (HR.out.below HW.out.below).2.2 (by omega)
        have HC := Lib.hid (hcx a han)
        clear hcx
        subst hAe
        obtain ⟨s, hs⟩ : ∃ s, s = stp emptyS l a := ⟨_, rfl⟩
        rw [← hs] at HC
        have HS := Lib.hid hs
        have hsb : 0 ≤ s.at_ ∧ s.at_ ≤ 2199023255552 := by
          have h1 := stp_bounds HP.out (i := a) (by rw [HR.out.1]; exact han)
          rw [← hs] at h1
          have := H0.out
          omega
        clear hs
        go_wp2_with (refine wpList_load_ad (by kernel_rfl) 113 _ rfl (ad.add (a * 5)) (spL s) HC.out rfl _ (spV s) rfl Tryd.underlying113 rfl (by kernel_rfl) ?_)
        have HE1 := Lib.hid (show s.at_ = t → FoundP l n t (.returned (.tuple #[.int .i64 (a : Nat), .bool true])) from fun h => ⟨a, hbn, by rw [decide_eq_true (show a < n ∧ (stp emptyS l a).at_ = t from ⟨han, by rw [← HS.out]; exact h⟩)], HA.out, HB.out⟩)
        have HE0 := Lib.hid (show s.at_ ≠ t → FoundP l n t (.returned (.tuple #[.int .i64 (a : Nat), .bool false])) from fun h => ⟨a, hbn, by rw [decide_eq_false (show ¬ (a < n ∧ (stp emptyS l a).at_ = t) from fun h9 => h (by rw [HS.out]; exact h9.2))], HA.out, HB.out⟩)
        refine (cmp_c s t _ hsb (by have := HT.out; have := H0.out; omega)).mono ?_
        rintro e W1 ⟨rfl, hb⟩
        have HW1 := Lib.hid (HW.out.after hb)
        clear hb HW HC HA HB
        by_cases hc : s.at_ = t
        · have hcI : s.at_ - t = 0 := by omega
          have HEE := Lib.hid (HE1.out hc)
          go_wp2_with fail
          go_ret2
          exact ⟨HEE.out, HW1.out.below⟩
        · have hcI : ¬ s.at_ - t = 0 := by omega
          have HEE := Lib.hid (show FoundP l n t (.returned (.tuple #[.int .i64 (a : Nat), .bool (s.at_ - t == 0)])) by rw [show (s.at_ - t == 0) = false from beq_false_of_ne hcI]; exact HE0.out hc)
          go_wp2_with fail
          go_ret2
          exact ⟨HEE.out, HW1.out.below⟩
      · have hanI : ¬ (a : Int) < (n : Int) := by omega
        have hE : decide (a < n ∧ (stp emptyS l a).at_ = t) = false := decide_eq_false (fun h => han h.1)
        have HE := Lib.hid (show FoundP l n t (.returned (.tuple #[.int .i64 (a : Nat), .bool false])) from ⟨a, hbn, by rw [hE], HA.out, HB.out⟩)
        clear hE HA HB
        go_wp2_with fail
        go_ret2
        exact ⟨HE.out, HW.out.below⟩
end Go.Proofs.YtkgphbjneaagoaaDoor
