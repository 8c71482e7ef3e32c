/- Prof: scripts that are read; short; what the laws compare, in plain. -/
import Derived.Test.YtkgdcicaokekfaaDoorFj
set_option linter.unusedVariables false
namespace Go.Proofs.YtkgdcicaokekfaaDoor
open Go.RowKit Go.Sort

/-- The slice value '.slice A n c' reads as these calls. -/
def ReadsAk (w : World) (A : Option Addr) (n c : Nat) (l : List Ak) : Prop :=
  l.length = n ∧ n ≤ c ∧ c ≤ 9223372036854775807 ∧ (0 < n → ∃ ad, A = some ad ∧ ∀ i (x : Ak), l[i]? = some x → ∀ j v, (akL x)[j]? = some v → w.cell? ((ad.add (i * 7)).add j) = some v)
theorem ReadsAk.below {w w' : World} {A : Option Addr} {n c : Nat} {l : List Ak} (h : ReadsAk w A n c l) (hb : Below w.heap.size w w') : ReadsAk w' A n c l :=
  ⟨h.1, h.2.1, h.2.2.1, fun hn => by
    obtain ⟨ad, e, hc⟩ := h.2.2.2 hn
    exact ⟨ad, e, fun i x hx j v hv => (hb.cell (block_lt_of_cell (hc i x hx j v hv))).trans (hc i x hx j v hv)⟩⟩
theorem short_pc (A : Option Addr) (n c : Nat) (l : List Ak) (w : World) (h : ReadsAk w A n c l) :
    Calls Tryd.prog 9 #[.slice A n c] w fun e w' => e = .returned (.slice A (min n 14) c) ∧ w = w' := by
  have h1 : (min n 14 : Nat) ≤ c := by have := h.2.1; omega
  have h2 : (n : Int) ≤ 9223372036854775807 := by have := h.2.1; have := h.2.2.1; omega
  have h3 : ((min n 14 : Nat) : Int) = min (n : Int) 14 := by omega
  have h4 : (c : Int) ≤ 9223372036854775807 := by have := h.2.2.1; omega
  have h5 : min (n : Int) 14 ≤ (c : Int) := by omega
  have h6 : (min (n : Int) 14).toNat = min n 14 := by omega
  clear h
  go_enter Tryd.func9, Tryd.ntmps9
  go_wp2_with fail
  go_ret
  exact ⟨rfl, rfl⟩
/-- What Earliest tells, in one. -/
def EarlR (nodes : NS) (l : List (Sp NS)) (t0 n long lo : Int) (of : NS) (t : Int) (F : NS) (f : Int) : Prop :=
  (f = 1 ∧ badAsk t0 n long lo ∧ F = emptyS) ∨ (f = 9 ∧ ¬ badAsk t0 n long lo ∧ ∀ u, lo ≤ u → ¬ Will nodes l 2199023255552 n long of u) ∨ (f = 0 ∧ ¬ badAsk t0 n long lo ∧ EarlAt nodes l n long lo of t ∧ F = firstS (durS nodes l t (t + long) &&& of) n)
theorem EarlP.form {nodes : NS} {l : List (Sp NS)} {t0 n long lo : Int} {of : NS} {e : Ending} (h : EarlP nodes l t0 n long lo of e) :
    ∃ t F f, e = .returned (.tuple #[.int .i64 t, nsV F, .int .i64 f]) ∧ EarlR nodes l t0 n long lo of t F f := by
  cases h with
  | bad h1 => exact ⟨0, emptyS, 1, rfl, .inl ⟨rfl, h1, rfl⟩⟩
  | none h1 h2 => exact ⟨0, emptyS, 9, rfl, .inr (.inl ⟨rfl, h1, h2⟩)⟩
  | some h1 t ht => exact ⟨t, _, 0, rfl, .inr (.inr ⟨rfl, h1, ht, rfl⟩)⟩
theorem early_f (g : Nat) (nodes : NS) (A : Option Addr) (c : Nat) (l : List (Sp NS)) (n long lo : Int) (of : NS) (w : World) (hG : Good l) (ho : (Own.pf g nodes A c l).ok w) (hT : TabW w) :
    Calls Tryd.prog 11 #[.pointer (some ⟨g, 0, none⟩), .int .i64 n, .int .i64 long, .int .i64 lo, nsV of] w fun e w' => (∃ t F f, e = .returned (.tuple #[.int .i64 t, nsV F, .int .i64 f]) ∧ EarlR nodes l 0 n long lo of t F f) ∧ Below w.heap.size w w' :=
  (earliest_c g nodes A c l 0 n long lo of w (hG.ok ho) hT).mono fun _ _ ⟨a, b⟩ => ⟨a.form, b⟩
theorem new_f (nodes : NS) (w : World) : Calls Tryd.prog 8 #[nsV nodes, .int .i64 0] w fun e w' => ∃ g, e = .returned (.tuple #[.pointer (some ⟨g, 0, none⟩), .int .i64 0]) ∧ NewP w nodes [⟨0, nodes⟩] g w' := newP_yes nodes 0 w (by decide) (by decide)
theorem does_f (g : Nat) (nodes : NS) (A : Option Addr) (c : Nat) (l : List (Sp NS)) (a : Ak) (w : World) (hG : Good l) (h : (Own.pf g nodes A c l).ok w) :
    Calls Tryd.prog 10 #[.pointer (some ⟨g, 0, none⟩), akV a] w fun e W => ∃ v l', e = .returned (.int .i64 v) ∧ v = doesE nodes l a ∧ l' = doesL nodes l a ∧ ∃ A' c', Ms w (Own.pf g nodes A c l).bl [.pf g nodes A' c' l'] W :=
  (does_c g nodes A c l a w hG h).mono fun _ _ ⟨e, A', c', hM⟩ => ⟨_, _, e, rfl, rfl, A', c', hM⟩

/-! ### more and less -/
theorem subS_or (f s : NS) : subS f (f ||| s) := fun b hb h => by rw [BitVec.getLsbD_or, h]; rfl
theorem subS_not (f s : NS) : subS (notS f s) f := fun b hb h => by
  rw [notS_bit _ _ _ hb] at h
  simp only [Bool.and_eq_true] at h
  exact h.1
theorem subS.refl (s : NS) : subS s s := fun b hb h => h
theorem give_fr {nodes : NS} {l : List (Sp NS)} {a : Ak} (hG : Good l) (hg : a.give = true) (hv : doesE nodes l a = 0) : ∀ u, 0 ≤ u → u < 2199023255552 → frA emptyS (doesL nodes l a) u = turnF a.lo a.hi (fun f => f ||| a.s) (frA emptyS l) u := by
  unfold doesE at hv
  rw [if_pos hg] at hv
  unfold doesL
  rw [if_pos hg]
  unfold giveL
  rw [if_pos hv]
  exact (turn_prf hG.prf (spanE_zero (giveE_zero hv).1).2.1).2.1
theorem take_fr {nodes : NS} {l : List (Sp NS)} {a : Ak} (hG : Good l) (hg : a.give = false) (hv : doesE nodes l a = 0) : ∀ u, 0 ≤ u → u < 2199023255552 → frA emptyS (doesL nodes l a) u = turnF a.lo a.hi (fun f => notS f a.s) (frA emptyS l) u := by
  unfold doesE at hv
  rw [if_neg (by simp [hg])] at hv
  unfold doesL
  rw [if_neg (by simp [hg])]
  unfold takeL
  rw [if_pos hv]
  exact (turn_prf hG.prf (spanE_zero (takeE_zero hv).1).2.1).2.1
theorem more_give {nodes : NS} {l : List (Sp NS)} {a : Ak} {n long lo t t2 f2 : Int} {of F2 : NS} (hG : Good l) (hg : a.give = true) (hv : doesE nodes l a = 0) (hb : ¬ badAsk 0 n long lo) (h1 : EarlAt nodes l n long lo of t)
    (h2 : EarlR nodes (doesL nodes l a) 0 n long lo of t2 F2 f2) : f2 = 0 ∧ t2 ≤ t := by
  have hl : 0 < long := by unfold badAsk at hb; omega
  have h0 : 0 ≤ lo := by unfold badAsk at hb; omega
  have hw : Will nodes (doesL nodes l a) 2199023255552 n long of t := h1.will.more hG.prf hG.does.prf (by have := h1.ge; omega) hl (fun u hu1 hu2 => by
    rw [give_fr hG hg hv u hu1 hu2]
    unfold turnF
    split
    · exact subS_or _ _
    · exact subS.refl _)
  rcases h2 with h2 | h2 | h2
  · exact absurd h2.2.1 hb
  · exact absurd hw (h2.2.2 t h1.ge)
  · refine ⟨h2.1, ?_⟩
    rcases Int.lt_or_le t t2 with h3 | h3
    · exact absurd hw (h2.2.2.1.least t h1.ge h3)
    · exact h3
theorem more_take {nodes : NS} {l : List (Sp NS)} {a : Ak} {n long lo t t2 f2 : Int} {of F2 : NS} (hG : Good l) (hg : a.give = false) (hv : doesE nodes l a = 0) (hb : ¬ badAsk 0 n long lo) (h1 : EarlAt nodes l n long lo of t)
    (h2 : EarlR nodes (doesL nodes l a) 0 n long lo of t2 F2 f2) : f2 = 9 ∨ (f2 = 0 ∧ t ≤ t2) := by
  have hl : 0 < long := by unfold badAsk at hb; omega
  have h0 : 0 ≤ lo := by unfold badAsk at hb; omega
  rcases h2 with h2 | h2 | h2
  · exact absurd h2.2.1 hb
  · exact .inl h2.1
  · refine .inr ⟨h2.1, ?_⟩
    have hw : Will nodes l 2199023255552 n long of t2 := h2.2.2.1.will.more hG.does.prf hG.prf (by have := h2.2.2.1.ge; omega) hl (fun u hu1 hu2 => by
      rw [take_fr hG hg hv u hu1 hu2]
      unfold turnF
      split
      · exact subS_not _ _
      · exact subS.refl _)
    rcases Int.lt_or_le t2 t with h3 | h3
    · exact absurd hw (h1.least t2 h2.2.2.1.ge h3)
    · exact h3
theorem earl_at {nodes : NS} {l : List (Sp NS)} {n long lo t f : Int} {of F : NS} (h : EarlR nodes l 0 n long lo of t F f) (hf : f = 0) : ¬ badAsk 0 n long lo ∧ EarlAt nodes l n long lo of t := by
  rcases h with h | h | h
  · omega
  · omega
  · exact ⟨h.2.1, h.2.2.1⟩
end Go.Proofs.YtkgdcicaokekfaaDoor
