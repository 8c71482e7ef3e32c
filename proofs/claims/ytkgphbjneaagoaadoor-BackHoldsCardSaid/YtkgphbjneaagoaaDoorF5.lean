/- Prof: a profile's steps as they are read; find. -/
import Derived.Test.YtkgphbjneaagoaaDoorF4
set_option linter.unusedVariables false
namespace Go.Proofs.YtkgphbjneaagoaaDoor
open Go.RowKit Go.Sort

/-- The row of a profile's steps, as it is read. -/
theorem rowP_read {w : World} {A : Option Addr} {c : Nat} {l : List (Sp NS)} (h : (rowP A c l).ok w) (hl : l.length ≤ 1048576) : ReadsP w A l.length l := by
  have h' : w.ownsRow 0 113 5 (slP A c l) l.length (spC l) := h
  refine ⟨rfl, by omega, fun hn => ?_⟩
  rcases h'.2 with ⟨_, e⟩ | ⟨g, cap, cur, e, _, hg, hcap, hmax, hcs, ht⟩
  · omega
  · injection e with e1 _ _
    refine ⟨⟨g, 0, none⟩, e1, fun i hi j v hj => ?_⟩
    have hj5 : j < 5 := by
      by_cases h3 : j < 5
      · exact h3
      · rw [List.getElem?_eq_none (by show 5 ≤ j; omega)] at hj; cases hj
    rw [add_plain, add_at]
    have hq := h'.cells (g := g) (by rw [e1]; rfl) (i * 5 + j) v (by rw [spC_get l i j hi hj5]; exact hj)
    rw [add_plain] at hq
    exact hq

/-- A profile, as its methods find it. -/
structure PfOk (w : World) (g : Nat) (nodes : NS) (A : Option Addr) (c : Nat) (l : List (Sp NS)) (t0 : Int) : Prop where
  ok : (Own.pf g nodes A c l).ok w
  len : l.length ≤ 1048576
  prf : Prf t0 2199023255552 l
  low : 0 ≤ t0
theorem PfOk.blk {w : World} {g : Nat} {nodes : NS} {A : Option Addr} {c : Nat} {l : List (Sp NS)} {t0 : Int} (h : PfOk w g nodes A c l t0) : Blk w g 116 (pfA nodes A c l) := h.ok.1
theorem PfOk.read {w : World} {g : Nat} {nodes : NS} {A : Option Addr} {c : Nat} {l : List (Sp NS)} {t0 : Int} (h : PfOk w g nodes A c l t0) : ReadsP w A l.length l := rowP_read h.ok.2.1 h.len
theorem FoundP.at_ {l : List (Sp NS)} {t0 t : Int} (hP : Prf t0 2199023255552 l) (ht : t0 ≤ t) {a : Nat} (ha : a ≤ l.length) (h1 : ∀ k, k < a → (stp emptyS l k).at_ < t) (h2 : ∀ k, a ≤ k → k < l.length → t ≤ (stp emptyS l k).at_) :
    if a < l.length ∧ (stp emptyS l a).at_ = t then At emptyS l t a else 1 ≤ a ∧ At emptyS l t (a - 1) := by
  split
  · rename_i h
    exact ⟨h.1, by omega, fun h9 => by
      have := stp_lt emptyS hP.can (show a < a + 1 by omega) h9
      omega⟩
  · rename_i h
    have h0 : 1 ≤ a := by
      rcases Nat.eq_zero_or_pos a with rfl | h3
      · exfalso
        obtain ⟨x, r, rfl, e2⟩ := hP.first
        have h4 : t ≤ x.at_ := h2 0 (Nat.le_refl _) (by simp)
        exact h ⟨by simp, by show x.at_ = t; omega⟩
      · exact h3
    refine ⟨h0, by omega, by have := h1 (a - 1) (by omega); omega, fun h9 => ?_⟩
    have e : a - 1 + 1 = a := by omega
    rw [e] at h9 ⊢
    have h5 := h2 a (Nat.le_refl _) h9
    have h6 : (stp emptyS l a).at_ ≠ t := fun h7 => h ⟨h9, h7⟩
    omega
/-- The number of the step that holds at t. -/
def AtE (l : List (Sp NS)) (t : Int) (e : Ending) : Prop := ∃ i : Nat, At emptyS l t i ∧ e = .returned (.int .i64 (i : Nat))
set_option maxRecDepth 100000 in
set_option maxHeartbeats 4000000 in
theorem find_c (g : Nat) (nodes : NS) (A : Option Addr) (c : Nat) (l : List (Sp NS)) (t0 t : Int) (w : World) (h : PfOk w g nodes A c l t0) (ht : t0 ≤ t ∧ t ≤ 2199023255552) :
    Calls Tryd.prog 59 #[.pointer (some ⟨g, 0, none⟩), .int .i64 t] w fun e w' => AtE l t e ∧ Below w.heap.size w w' := by
  have HH := Lib.hid h
  have HT := Lib.hid ht
  clear h ht
  go_enter Tryd.func59, Tryd.ntmps59
  obtain ⟨r1, r2, r3⟩ := HH.out.blk.rules
  go_wp2_with fail
  refine (bsf_c A l.length c l t t0 _ HH.out.read HH.out.len HH.out.prf HH.out.low HT.out).mono ?_
  rintro e W1 ⟨⟨a, ha, rfl, h1, h2⟩, hb⟩
  have HB := Lib.hid hb
  have HF := FoundP.at_ HH.out.prf HT.out.1 ha h1 h2
  have haI : (a : Int) ≤ 1048576 := by have := HH.out.len; omega
  clear hb h1 h2
  by_cases hc : a < l.length ∧ (stp emptyS l a).at_ = t
  · rw [if_pos hc] at HF
    rw [decide_eq_true hc]
    have HX := Lib.hid (show AtE l t (.returned (.int .i64 (a : Nat))) from ⟨a, HF, rfl⟩)
    clear HF hc
    go_wp2_with fail
    go_ret
    exact ⟨HX.out, HB.out⟩
  · rw [if_neg hc] at HF
    rw [decide_eq_false hc]
    have HX := Lib.hid (show AtE l t (.returned (.int .i64 ((a : Int) - 1))) from ⟨a - 1, HF.2, by congr 2; have := HF.1; omega⟩)
    clear HF hc
    go_wp2_with fail
    go_ret
    exact ⟨HX.out, HB.out⟩
end Go.Proofs.YtkgphbjneaagoaaDoor
