/- Profiles: a step by its index, by its time; what holds all through a span. -/
import Derived.Test.YtkgphbjneaagoaaDoorF0
set_option linter.unusedVariables false
set_option linter.unusedSectionVars false
namespace Go.Proofs.YtkgphbjneaagoaaDoor

section
variable {α : Type} [DecidableEq α]
abbrev stp (d : α) (l : List (Sp α)) (i : Nat) : Sp α := l.getD i ⟨0, d⟩
theorem stp_zero (d : α) (x : Sp α) (r : List (Sp α)) : stp d (x :: r) 0 = x := rfl
theorem stp_succ (d : α) (x : Sp α) (r : List (Sp α)) (i : Nat) : stp d (x :: r) (i + 1) = stp d r i := rfl
theorem stp_mem (d : α) : ∀ {l : List (Sp α)} {i : Nat}, i < l.length → stp d l i ∈ l
  | x :: r, 0, _ => by simp
  | x :: r, i + 1, h => List.mem_cons_of_mem _ (stp_mem d (l := r) (by simpa using h))
theorem stp_lt (d : α) : ∀ {l : List (Sp α)}, Can l → ∀ {i j : Nat}, i < j → j < l.length → (stp d l i).at_ < (stp d l j).at_
  | x :: r, h, 0, j + 1, _, hj => h.head_lt _ (stp_mem d (by simpa using hj))
  | x :: r, h, i + 1, j + 1, hij, hj => stp_lt d (l := r) h.tail (by omega) (by simpa using hj)
/-- The step i is the one that holds at t. -/
structure At (d : α) (l : List (Sp α)) (t : Int) (i : Nat) : Prop where
  lt : i < l.length
  le : (stp d l i).at_ ≤ t
  next : i + 1 < l.length → t < (stp d l (i + 1)).at_
theorem At.is_ {d : α} : ∀ {l : List (Sp α)} {t : Int} {i : Nat}, Can l → At d l t i → frA d l t = (stp d l i).free
  | [x], t, 0, _, _ => rfl
  | [x], t, i + 1, _, h => by have := h.lt; simp at this
  | x :: y :: r, t, 0, hc, h => by
    have h1 : t < y.at_ := h.next (by simp)
    show (if t < y.at_ then x.free else _) = _
    rw [if_pos h1]; rfl
  | x :: y :: r, t, i + 1, hc, h => by
    have h2 : At d (y :: r) t i := ⟨by have := h.lt; simpa using this, h.le, fun h9 => h.next (by simpa using h9)⟩
    have h3 : ¬ t < y.at_ := by
      have h4 := h2.le
      rcases Nat.eq_zero_or_pos i with rfl | hi
      · have h5 : y.at_ ≤ t := h4
        omega
      · have h5 : y.at_ < (stp d (y :: r) i).at_ := stp_lt d hc.tail hi h2.lt
        omega
    show (if t < y.at_ then x.free else frA d (y :: r) t) = _
    rw [if_neg h3, At.is_ hc.tail h2]; rfl
  | [], t, i, _, h => by have := h.lt; simp at this
theorem At.mono {d : α} {l : List (Sp α)} {t u : Int} {i j : Nat} (hc : Can l) (h : At d l t i) (h2 : At d l u j) (htu : t ≤ u) : i ≤ j := by
  rcases Nat.lt_or_ge j i with h3 | h3
  · exfalso
    have h4 := h2.next (by have := h.lt; omega)
    have h5 : (stp d l (j + 1)).at_ ≤ (stp d l i).at_ := by
      rcases Nat.lt_or_ge (j + 1) i with h6 | h6
      · exact Int.le_of_lt (stp_lt d hc h6 h.lt)
      · have : j + 1 = i := by omega
        rw [this]; exact Int.le_refl _
    have := h.le
    omega
  · exact h3
theorem At.ex {d : α} {l : List (Sp α)} {t0 E t : Int} (h : Prf t0 E l) (ht : t0 ≤ t) : ∃ i, At d l t i := by
  obtain ⟨x, r, rfl, hx⟩ := h.first
  have key : ∀ n, n < (x :: r).length → (∃ i, At d (x :: r) t i) ∨ (stp d (x :: r) n).at_ ≤ t := by
    intro n
    induction n with
    | zero => intro _; right; show x.at_ ≤ t; omega
    | succ n ih =>
      intro hn
      rcases ih (by omega) with h1 | h1
      · exact .inl h1
      · by_cases h2 : (stp d (x :: r) (n + 1)).at_ ≤ t
        · exact .inr h2
        · exact .inl ⟨n, by omega, h1, fun _ => by omega⟩
  rcases key r.length (by simp) with h1 | h1
  · exact h1
  · exact ⟨r.length, by simp, h1, fun h9 => by simp at h9⟩
theorem At.uniq {d : α} {l : List (Sp α)} {t : Int} {i j : Nat} (hc : Can l) (h : At d l t i) (h2 : At d l t j) : i = j :=
  Nat.le_antisymm (h.mono hc h2 (Int.le_refl _)) (h2.mono hc h (Int.le_refl _))
/-- Of the steps that a span meets each holds somewhere in it, and nothing else does. -/
theorem span_steps {d : α} {l : List (Sp α)} {t0 E lo hi : Int} {i j : Nat} (h : Prf t0 E l) (h0 : t0 ≤ lo) (hlh : lo < hi) (hi_ : At d l lo i) (hj : At d l (hi - 1) j) (Q : α → Prop) :
    (∀ k, i ≤ k → k ≤ j → Q (stp d l k).free) ↔ ∀ t, lo ≤ t → t < hi → Q (frA d l t) := by
  constructor
  · intro hq t h1 h2
    obtain ⟨k, hk⟩ := At.ex (d := d) (t := t) h (by omega)
    rw [hk.is_ h.can]
    exact hq k (hi_.mono h.can hk h1) (hk.mono h.can hj (by omega))
  · intro hq k h1 h2
    have hkl : k < l.length := Nat.lt_of_le_of_lt h2 hj.lt
    have hkj : (stp d l k).at_ ≤ hi - 1 := by
      rcases Nat.lt_or_ge k j with h3 | h3
      · have := stp_lt d h.can h3 hj.lt; have := hj.le; omega
      · have e : k = j := by omega
        rw [e]; exact hj.le
    have hat : At d l (max lo (stp d l k).at_) k := ⟨hkl, by omega, fun h9 => by
      have h4 := stp_lt d h.can (show k < k + 1 by omega) h9
      have h5 : lo < (stp d l (k + 1)).at_ := by
        have h6 : i + 1 < l.length := by omega
        have h7 := hi_.next h6
        rcases Nat.lt_or_ge i k with h8 | h8
        · have := stp_lt d h.can (i := i + 1) (j := k + 1) (by omega) h9; omega
        · have e : k = i := by omega
          rw [e]; exact h7
      omega⟩
    rw [← hat.is_ h.can]
    exact hq _ (by omega) (by omega)
end
end Go.Proofs.YtkgphbjneaagoaaDoor
