/- Prof: what was taken, what is given again, in plain; equal. -/
import Derived.Test.YtkgdcicaokekfaaDoorFk
set_option linter.unusedVariables false
namespace Go.Proofs.YtkgdcicaokekfaaDoor
open Go.RowKit Go.Sort

theorem take_f (g : Nat) (nodes : NS) (A : Option Addr) (c : Nat) (l : List (Sp NS)) (lo hi : Int) (s : NS) (w : World) (hG : Good l) (h : (Own.pf g nodes A c l).ok w) :
    Calls Tryd.prog 19 #[.pointer (some ⟨g, 0, none⟩), nsV s, .int .i64 lo, .int .i64 hi] w fun e W => ∃ v l', e = .returned (.int .i64 v) ∧ v = takeE nodes l 0 lo hi s ∧ l' = takeL nodes l 0 lo hi s ∧ ∃ A' c', Ms w (Own.pf g nodes A c l).bl [.pf g nodes A' c' l'] W :=
  (take_c g nodes A c l 0 lo hi s w (hG.ok h) hG.len).mono fun _ _ ⟨e, A', c', hM⟩ => ⟨_, _, e, rfl, rfl, A', c', hM⟩
theorem give_f (g : Nat) (nodes : NS) (A : Option Addr) (c : Nat) (l : List (Sp NS)) (lo hi : Int) (s : NS) (w : World) (hG : Good l) (h : (Own.pf g nodes A c l).ok w) :
    Calls Tryd.prog 22 #[.pointer (some ⟨g, 0, none⟩), nsV s, .int .i64 lo, .int .i64 hi] w fun e W => ∃ v l', e = .returned (.int .i64 v) ∧ v = giveE nodes l 0 lo hi s ∧ l' = giveL nodes l 0 lo hi s ∧ ∃ A' c', Ms w (Own.pf g nodes A c l).bl [.pf g nodes A' c' l'] W :=
  (give_c g nodes A c l 0 lo hi s w (hG.ok h) hG.len).mono fun _ _ ⟨e, A', c', hM⟩ => ⟨_, _, e, rfl, rfl, A', c', hM⟩
theorem free_f (g : Nat) (nodes : NS) (A : Option Addr) (c : Nat) (l : List (Sp NS)) (t : Int) (w : World) (hG : Good l) (h : (Own.pf g nodes A c l).ok w) :
    Calls Tryd.prog 20 #[.pointer (some ⟨g, 0, none⟩), .int .i64 t] w fun e w' => e = .returned (.tuple #[nsV (freeN l 0 t), .int .i64 (freeE 0 t)]) ∧ Below w.heap.size w w' := free_c g nodes A c l 0 t w (hG.ok h)
theorem during_f (g : Nat) (nodes : NS) (A : Option Addr) (c : Nat) (l : List (Sp NS)) (lo hi : Int) (w : World) (hG : Good l) (h : (Own.pf g nodes A c l).ok w) :
    Calls Tryd.prog 13 #[.pointer (some ⟨g, 0, none⟩), .int .i64 lo, .int .i64 hi] w fun e w' => e = .returned (.tuple #[nsV (durN nodes l 0 lo hi), .int .i64 (spanE 0 lo hi)]) ∧ Below w.heap.size w w' := during_c g nodes A c l 0 lo hi w (hG.ok h)
theorem copy_f (g : Nat) (nodes : NS) (A : Option Addr) (c : Nat) (l : List (Sp NS)) (w : World) (hG : Good l) (h : (Own.pf g nodes A c l).ok w) :
    Calls Tryd.prog 18 #[.pointer (some ⟨g, 0, none⟩)] w fun e w' => ∃ k, e = .returned (.pointer (some ⟨k, 0, none⟩)) ∧ NewP w nodes l k w' := copy_c g nodes A c l 0 w (hG.ok h)
theorem steps_f (g : Nat) (nodes : NS) (A : Option Addr) (c : Nat) (l : List (Sp NS)) (w : World) (hG : Good l) (h : (Own.pf g nodes A c l).ok w) :
    Calls Tryd.prog 17 #[.pointer (some ⟨g, 0, none⟩)] w fun e w' => ∃ A' c', e = .returned (.slice A' l.length c') ∧ Ms w noB [.row 3 1 (.slice A' l.length c') l.length (nums (l.map Sp.at_))] w' := steps_c g nodes A c l 0 w (hG.ok h)
theorem takeL_fr {nodes : NS} {l : List (Sp NS)} {lo hi : Int} {s : NS} (hG : Good l) (hv : takeE nodes l 0 lo hi s = 0) : ∀ u, 0 ≤ u → u < 2199023255552 → frA emptyS (takeL nodes l 0 lo hi s) u = turnF lo hi (fun f => notS f s) (frA emptyS l) u := by
  unfold takeL
  rw [if_pos hv]
  exact (turn_prf hG.prf (spanE_zero (takeE_zero hv).1).2.1).2.1
theorem taken_free {nodes : NS} {l : List (Sp NS)} {lo hi t : Int} {s : NS} (hG : Good l) (hv : takeE nodes l 0 lo hi s = 0) : freeN (takeL nodes l 0 lo hi s) 0 t = if lo ≤ t ∧ t < hi then notS (freeN l 0 t) s else freeN l 0 t := by
  have hs := spanE_zero (takeE_zero hv).1
  unfold freeN
  by_cases h : t < 0 ∨ 2199023255552 ≤ t
  · rw [if_pos h, if_pos h, if_neg (by omega)]
  · rw [if_neg h, if_neg h, takeL_fr hG hv t (by omega) (by omega)]
    rfl
/-- Taken, nothing of it is free in the span; given again, all is as before. -/
theorem fr_sub {nodes : NS} {l : List (Sp NS)} {lo hi t : Int} {s : NS} (hG : Good l) (hs : spanE 0 lo hi = 0) (hd : notS s (durS nodes l lo hi) = emptyS) (h1 : lo ≤ t) (h2 : t < hi) : subS s (frA emptyS l t) := by
  intro b hb h
  have h3 := spanE_zero hs
  have h4 : (notS s (durS nodes l lo hi)).getLsbD b = false := by rw [hd]; exact empty_bit b
  rw [notS_bit _ _ _ hb, h, Bool.true_and] at h4
  have h5 : (durS nodes l lo hi).getLsbD b = true := by simpa using h4
  exact ((durS_bit hG.prf h3.1 h3.2.1 hb).1 h5).2 t h1 h2
theorem not_and_self (f s : NS) : notS f s &&& s = emptyS := ns_ext fun b hb => by
  rw [BitVec.getLsbD_and, notS_bit _ _ _ hb, empty_bit]
  cases f.getLsbD b <;> cases s.getLsbD b <;> rfl
theorem not_or_self {f s : NS} (h : subS s f) : notS f s ||| s = f := ns_ext fun b hb => by
  rw [BitVec.getLsbD_or, notS_bit _ _ _ hb]
  have := h b hb
  cases h1 : f.getLsbD b <;> cases h2 : s.getLsbD b <;> simp_all
theorem back_none {nodes : NS} {l : List (Sp NS)} {lo hi : Int} {s : NS} (hG : Good l) (hv : takeE nodes l 0 lo hi s = 0) : NoneIn (takeL nodes l 0 lo hi s) lo hi s := by
  intro t h1 h2
  have h3 := spanE_zero (takeE_zero hv).1
  rw [takeL_fr hG hv t (by omega) (by omega)]
  unfold turnF
  rw [if_pos ⟨h1, h2⟩]
  exact not_and_self _ _
theorem back_turn {nodes : NS} {l : List (Sp NS)} {lo hi : Int} {s : NS} (hG : Good l) (hv : takeE nodes l 0 lo hi s = 0) : turnL 2199023255552 lo hi (fun f => f ||| s) [] (takeL nodes l 0 lo hi s) = l := by
  have hz := takeE_zero hv
  have h3 := spanE_zero hz.1
  have hG' : Good (takeL nodes l 0 lo hi s) := hG.take
  have hp := turn_prf (d := emptyS) (do_ := fun f => f ||| s) hG'.prf h3.2.1
  refine prf_unique (d := emptyS) hp.1 hG.prf fun t h1 h2 => ?_
  rw [hp.2.1 t h1 h2]
  unfold turnF
  by_cases h : lo ≤ t ∧ t < hi
  · rw [if_pos h, takeL_fr hG hv t h1 h2]
    unfold turnF
    rw [if_pos h]
    exact not_or_self (fr_sub hG hz.1 hz.2.2.1 h.1 h.2)
  · rw [if_neg h, takeL_fr hG hv t h1 h2]
    unfold turnF
    rw [if_neg h]
theorem back_give {nodes : NS} {l : List (Sp NS)} {lo hi : Int} {s : NS} (hG : Good l) (hv : takeE nodes l 0 lo hi s = 0) : giveE nodes (takeL nodes l 0 lo hi s) 0 lo hi s = 0 ∧ giveL nodes (takeL nodes l 0 lo hi s) 0 lo hi s = l := by
  have hz := takeE_zero hv
  have h1 : giveE nodes (takeL nodes l 0 lo hi s) 0 lo hi s = 0 := by
    unfold giveE
    rw [if_neg (by omega), if_neg (fun h => h hz.2.1), if_neg (fun h => h (back_none hG hv)), back_turn hG hv, if_neg (by have := hG.len; omega)]
  refine ⟨h1, ?_⟩
  unfold giveL
  rw [if_pos h1, back_turn hG hv]
theorem back_dur {nodes : NS} {l : List (Sp NS)} {lo hi : Int} {s : NS} (hG : Good l) (hv : takeE nodes l 0 lo hi s = 0) : durS nodes (takeL nodes l 0 lo hi s) lo hi &&& s = emptyS := ns_ext fun b hb => by
  have h3 := spanE_zero (takeE_zero hv).1
  have h4 := back_none hG hv lo (Int.le_refl _) h3.2.1
  have h5 : (frA emptyS (takeL nodes l 0 lo hi s) lo &&& s).getLsbD b = false := by rw [h4]; exact empty_bit b
  rw [BitVec.getLsbD_and] at h5
  rw [BitVec.getLsbD_and, empty_bit]
  by_cases h6 : (durS nodes (takeL nodes l 0 lo hi s) lo hi).getLsbD b = true
  · rw [((durS_bit hG.take.prf h3.1 h3.2.1 hb).1 h6).2 lo (Int.le_refl _) h3.2.1, Bool.true_and] at h5
    rw [h5, Bool.and_false]
  · have h7 : (durS nodes (takeL nodes l 0 lo hi s) lo hi).getLsbD b = false := by simpa using h6
    rw [h7, Bool.false_and]
theorem cell_of_four {x0 x1 x2 x3 : Int} {k : Nat} (h : k < 4) : ∃ t : Int, (#[.int .i64 x0, .int .i64 x1, .int .i64 x2, .int .i64 x3] : Array Value)[k]? = some (.int .i64 t) := by
  rcases (show k = 0 ∨ k = 1 ∨ k = 2 ∨ k = 3 by omega) with rfl | rfl | rfl | rfl
  · exact ⟨x0, rfl⟩
  · exact ⟨x1, rfl⟩
  · exact ⟨x2, rfl⟩
  · exact ⟨x3, rfl⟩
/-- Two slices that are read as one list are told to be the same. -/
theorem ReadsI.of_row {w : World} {A : Option Addr} {n c : Nat} {xs : List Int} (h : w.ownsRow 0 3 1 (.slice A n c) n (nums xs)) (hx : xs.length = n) : ReadsI w A n xs := by
  refine ⟨hx, ?_, fun hn => ?_⟩
  · rcases h.2 with ⟨_, e⟩ | ⟨g, cap, cur, e, _, hg, hcap, hmax, hcs, ht⟩
    · omega
    · simp only [maxLen] at hmax; omega
  · obtain ⟨b, cap, e, _⟩ := World.ownsRow.form h hn
    injection e with e1
    refine ⟨_, e1, fun j hj => ?_⟩
    have := h.cells (g := b) (by rw [e1]; rfl) j (.int .i64 (xs.getD j 0)) (by simp [nums, hx, hj, List.getD_eq_getElem?_getD])
    exact this
end Go.Proofs.YtkgdcicaokekfaaDoor
