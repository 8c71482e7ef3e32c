/- Profiles over sets of nodes: what is free all through a span, and from when on enough is. -/
import Derived.Test.YtkgphbjneaagoaaDoorF1
import Derived.Test.YtkgphbjneaagoaaDoorNs
set_option linter.unusedVariables false
namespace Go.Proofs.YtkgphbjneaagoaaDoor

/-- The AND of the nodes and of m steps from step i on. -/
def andP (nodes : NS) (l : List (Sp NS)) (i : Nat) : Nat → NS
  | 0 => nodes
  | m + 1 => andP nodes l i m &&& (stp emptyS l (i + m)).free
theorem andP_bit (nodes : NS) (l : List (Sp NS)) (i b : Nat) : ∀ m, (andP nodes l i m).getLsbD b = true ↔ nodes.getLsbD b = true ∧ ∀ k, i ≤ k → k < i + m → (stp emptyS l k).free.getLsbD b = true
  | 0 => ⟨fun h => ⟨h, fun k h1 h2 => by omega⟩, fun h => h.1⟩
  | m + 1 => by
    show ((andP nodes l i m &&& (stp emptyS l (i + m)).free).getLsbD b = true) ↔ _
    rw [BitVec.getLsbD_and, Bool.and_eq_true, andP_bit nodes l i b m]
    constructor
    · rintro ⟨⟨h1, h2⟩, h3⟩
      refine ⟨h1, fun k h4 h5 => ?_⟩
      by_cases h6 : k = i + m
      · rw [h6]; exact h3
      · exact h2 k h4 (by omega)
    · rintro ⟨h1, h2⟩
      exact ⟨⟨h1, fun k h4 h5 => h2 k h4 (by omega)⟩, h2 (i + m) (by omega) (by omega)⟩
/-- What is free all through a span. -/
def durS (nodes : NS) (l : List (Sp NS)) (lo hi : Int) : NS :=
  setOf fun b => nodes.getLsbD b && decide (∀ k, k < l.length → (stp emptyS l k).at_ < hi → (k + 1 < l.length → lo < (stp emptyS l (k + 1)).at_) → (stp emptyS l k).free.getLsbD b = true)
theorem meets {l : List (Sp NS)} {t0 E lo hi : Int} {i j k : Nat} (h : Prf t0 E l) (hlh : lo < hi) (h1 : At emptyS l lo i) (h2 : At emptyS l (hi - 1) j) (hk : k < l.length) :
    ((stp emptyS l k).at_ < hi ∧ (k + 1 < l.length → lo < (stp emptyS l (k + 1)).at_)) ↔ (i ≤ k ∧ k ≤ j) := by
  constructor
  · rintro ⟨h3, h4⟩
    constructor
    · rcases Nat.lt_or_ge k i with h5 | h5
      · exfalso
        have h6 := h4 (by have := h1.lt; omega)
        have h7 := h1.le
        rcases Nat.lt_or_ge (k + 1) i with h8 | h8
        · have := stp_lt emptyS h.can h8 h1.lt; omega
        · have e : k + 1 = i := by omega
          rw [e] at h6; omega
      · exact h5
    · rcases Nat.lt_or_ge j k with h5 | h5
      · exfalso
        have h6 := h2.next (by omega)
        rcases Nat.lt_or_ge (j + 1) k with h8 | h8
        · have := stp_lt emptyS h.can h8 hk; omega
        · have e : j + 1 = k := by omega
          rw [e] at h6; omega
      · exact h5
  · rintro ⟨h3, h4⟩
    constructor
    · have h5 := h2.le
      rcases Nat.lt_or_ge k j with h6 | h6
      · have := stp_lt emptyS h.can h6 h2.lt; omega
      · have e : k = j := by omega
        rw [e]; omega
    · intro h5
      have h6 := h1.next (by omega)
      rcases Nat.lt_or_ge i k with h7 | h7
      · have := stp_lt emptyS h.can (i := i + 1) (j := k + 1) (by omega) h5; omega
      · have e : k = i := by omega
        rw [e]; exact h6
theorem durS_eq {nodes : NS} {l : List (Sp NS)} {t0 E lo hi : Int} {i j : Nat} (h : Prf t0 E l) (hlh : lo < hi) (h1 : At emptyS l lo i) (h2 : At emptyS l (hi - 1) j) :
    andP nodes l i (j + 1 - i) = durS nodes l lo hi := by
  have hij := h1.mono h.can h2 (by omega)
  have h3 := h2.lt
  refine eq_setOf fun b hb => ?_
  rw [Bool.eq_iff_iff, andP_bit, Bool.and_eq_true, decide_eq_true_iff]
  refine and_congr_right fun _ => ⟨fun hq k hk h4 h5 => ?_, fun hq k h4 h5 => ?_⟩
  · have h6 := (meets h hlh h1 h2 hk).1 ⟨h4, h5⟩
    exact hq k h6.1 (by omega)
  · have h6 := (meets h hlh h1 h2 (k := k) (by omega)).2 ⟨h4, by omega⟩
    exact hq k (by omega) h6.1 h6.2
theorem durS_bit {nodes : NS} {l : List (Sp NS)} {t0 E lo hi : Int} (h : Prf t0 E l) (h0 : t0 ≤ lo) (hlh : lo < hi) {b : Nat} (hb : b < 256) :
    (durS nodes l lo hi).getLsbD b = true ↔ nodes.getLsbD b = true ∧ ∀ t, lo ≤ t → t < hi → (frA emptyS l t).getLsbD b = true := by
  obtain ⟨i, hi_⟩ := At.ex (d := emptyS) (t := lo) h h0
  obtain ⟨j, hj⟩ := At.ex (d := emptyS) (t := hi - 1) h (by omega)
  have hij := hi_.mono h.can hj (by omega)
  rw [← durS_eq h hlh hi_ hj, andP_bit]
  refine and_congr_right fun _ => ?_
  rw [← span_steps (d := emptyS) h h0 hlh hi_ hj (fun s => s.getLsbD b = true)]
  exact ⟨fun hq k h1 h2 => hq k h1 (by omega), fun hq k h1 h2 => hq k h1 (by omega)⟩
/-- One set in another. -/
def subS (s t : NS) : Prop := ∀ b, b < 256 → s.getLsbD b = true → t.getLsbD b = true
theorem subS.cnt {s t : NS} (h : subS s t) : cnt s ≤ cnt t := by
  unfold Go.Proofs.YtkgphbjneaagoaaDoor.cnt
  have h2 : ∀ n, n ≤ 256 → ((List.range n).filter fun i => s.getLsbD i).length ≤ ((List.range n).filter fun i => t.getLsbD i).length := by
    intro n
    induction n with
    | zero => intro _; simp
    | succ n ih =>
      intro hn
      have h3 := ih (by omega)
      rw [List.range_succ, List.filter_append, List.filter_append, List.length_append, List.length_append]
      by_cases h4 : s.getLsbD n = true
      · have h5 := h n (by omega) h4
        simp only [List.filter_cons, h4, h5, if_true, List.filter_nil, List.length_cons, List.length_nil]
        omega
      · simp only [List.filter_cons, h4, List.filter_nil, List.length_nil, if_false, Bool.false_eq_true]
        omega
  exact h2 256 (Nat.le_refl _)
/-- Is there enough from t on? -/
def Will (nodes : NS) (l : List (Sp NS)) (E : Int) (n long : Int) (of : NS) (t : Int) : Prop := t + long ≤ E ∧ n ≤ (cnt (durS nodes l t (t + long) &&& of) : Int)
/-- A start moved back to its step's time, or to where it is asked from, has no less. -/
theorem Will.back {nodes : NS} {l : List (Sp NS)} {t0 E n long lo t : Int} {of : NS} {k : Nat} (h : Prf t0 E l) (h0 : t0 ≤ lo) (hl : 0 < long) (ht : lo ≤ t) (hk : At emptyS l t k) (hw : Will nodes l E n long of t) :
    Will nodes l E n long of (max lo (stp emptyS l k).at_) := by
  have hle := hk.le
  refine ⟨by have := hw.1; omega, Int.le_trans hw.2 ?_⟩
  have hs : subS (durS nodes l t (t + long) &&& of) (durS nodes l (max lo (stp emptyS l k).at_) (max lo (stp emptyS l k).at_ + long) &&& of) := by
    intro b hb h1
    rw [BitVec.getLsbD_and, Bool.and_eq_true] at h1 ⊢
    refine ⟨?_, h1.2⟩
    have h2 := (durS_bit h (by omega) (by omega) hb).1 h1.1
    refine (durS_bit h (by omega) (by omega) hb).2 ⟨h2.1, fun u h3 h4 => ?_⟩
    rcases Int.lt_or_le u t with h5 | h5
    · have hu : At emptyS l u k := ⟨hk.lt, by omega, fun h9 => by have := hk.next h9; omega⟩
      rw [hu.is_ h.can, ← hk.is_ h.can]
      exact h2.2 t (Int.le_refl _) (by omega)
    · exact h2.2 u h5 (by omega)
  have := hs.cnt
  omega
/-- What holds less at each time has less all through. -/
theorem Will.more {nodes : NS} {l l' : List (Sp NS)} {t0 E n long t : Int} {of : NS} (h : Prf t0 E l) (h' : Prf t0 E l') (h0 : t0 ≤ t) (hl : 0 < long) (hf : ∀ u, t0 ≤ u → u < E → subS (frA emptyS l u) (frA emptyS l' u)) (hw : Will nodes l E n long of t) :
    Will nodes l' E n long of t := by
  refine ⟨hw.1, Int.le_trans hw.2 ?_⟩
  have hE := hw.1
  have hs : subS (durS nodes l t (t + long) &&& of) (durS nodes l' t (t + long) &&& of) := by
    intro b hb h1
    rw [BitVec.getLsbD_and, Bool.and_eq_true] at h1 ⊢
    refine ⟨?_, h1.2⟩
    have h2 := (durS_bit h h0 (by omega) hb).1 h1.1
    exact (durS_bit h' h0 (by omega) hb).2 ⟨h2.1, fun u h3 h4 => hf u (by omega) (by omega) b hb (h2.2 u h3 h4)⟩
  have := hs.cnt
  omega
end Go.Proofs.YtkgphbjneaagoaaDoor
