/- Back: plain facts: what is taken of a profile, spans that are kept, plans. No program in sight. -/
import Derived.Test.YtkgphbjneaagoaaDoorFf
set_option linter.unusedVariables false
namespace Go.Proofs.YtkgphbjneaagoaaDoor
open Go.RowKit Go.Sort

/-- A profile that a pass has: not too long. -/
structure Goo (t0 : Int) (l : List (Sp NS)) : Prop where
  len : l.length ≤ 4096
  prf : Prf t0 2199023255552 l
  low : 0 ≤ t0
theorem Goo.ok {w : World} {g : Nat} {nodes : NS} {A : Option Addr} {c : Nat} {l : List (Sp NS)} {t0 : Int} (h : Goo t0 l) (ho : (Own.pf g nodes A c l).ok w) : PfOk w g nodes A c l t0 := ⟨ho, by have := h.len; omega, h.prf, h.low⟩
theorem takeE_zero' {nodes : NS} {l : List (Sp NS)} {t0 lo hi : Int} {s : NS} (h : takeE nodes l t0 lo hi s = 0) : spanE t0 lo hi = 0 ∧ notS s nodes = emptyS ∧ notS s (durS nodes l lo hi) = emptyS ∧ (turnL 2199023255552 lo hi (fun f => notS f s) [] l).length ≤ 4096 := by
  unfold takeE at h
  rcases spanE_cases t0 lo hi with h1 | h1
  · rw [if_neg (by omega)] at h
    by_cases h2 : notS s nodes = emptyS
    · rw [if_neg (fun h => h h2)] at h
      by_cases h3 : notS s (durS nodes l lo hi) = emptyS
      · rw [if_neg (fun h => h h3)] at h
        split at h
        · omega
        · exact ⟨h1, h2, h3, by omega⟩
      · rw [if_pos h3] at h; omega
    · rw [if_pos h2] at h; omega
  · rw [if_pos h1] at h; omega
theorem Goo.take {t0 : Int} {nodes : NS} {l : List (Sp NS)} {lo hi : Int} {s : NS} (h : Goo t0 l) : Goo t0 (takeL nodes l t0 lo hi s) := by
  unfold takeL
  by_cases h1 : takeE nodes l t0 lo hi s = 0
  · rw [if_pos h1]
    have h2 := takeE_zero' h1
    exact ⟨h2.2.2.2, (turn_prf (d := emptyS) h.prf (spanE_zero h2.1).2.1).1, h.low⟩
  · rw [if_neg h1]; exact h
theorem goo_one (t0 : Int) (nodes : NS) (h0 : 0 ≤ t0) (h1 : t0 < 2199023255552) : Goo t0 [⟨t0, nodes⟩] := ⟨by simp, ⟨trivial, by intro s hs; simp at hs; subst hs; exact h1, ⟨t0, nodes⟩, [], rfl, rfl⟩, h0⟩
/-- Some nodes, from a time to another. -/
structure Oc where
  s : NS
  lo : Int
  hi : Int
/-- Is a node free at a time, of some, when some spans are taken? -/
def FreeB (up : NS) (occ : List Oc) (t : Int) (b : Nat) : Prop := up.getLsbD b = true ∧ ∀ o ∈ occ, o.lo ≤ t → t < o.hi → o.s.getLsbD b = false
/-- The profile tells what these spans leave. -/
def Holds (t0 : Int) (up : NS) (l : List (Sp NS)) (occ : List Oc) : Prop := ∀ t, t0 ≤ t → t < 2199023255552 → ∀ b, b < 256 → ((frA emptyS l t).getLsbD b = true ↔ FreeB up occ t b)
theorem holds_one (t0 : Int) (up : NS) : Holds t0 up [⟨t0, up⟩] [] := fun t h1 h2 b hb => ⟨fun h => ⟨h, fun o ho => by cases ho⟩, fun h => h.1⟩
theorem frA_sub {t0 : Int} {up : NS} {l : List (Sp NS)} {occ : List Oc} (hH : Holds t0 up l occ) {t : Int} (h1 : t0 ≤ t) (h2 : t < 2199023255552) : subS (frA emptyS l t) up := fun b hb h => ((hH t h1 h2 b hb).1 h).1
/-- What may be taken is taken. -/
theorem take_ok {t0 : Int} {up : NS} {l : List (Sp NS)} {lo hi : Int} {s : NS} (hG : Goo t0 l) (h0 : t0 ≤ lo) (h1 : lo < hi) (h2 : hi ≤ 2199023255552) (hu : subS s up) (hf : ∀ t, lo ≤ t → t < hi → subS s (frA emptyS l t)) (hl : l.length ≤ 4094) :
    takeE up l t0 lo hi s = 0 ∧ takeL up l t0 lo hi s = turnL 2199023255552 lo hi (fun f => notS f s) [] l := by
  have e : ∀ x y : NS, subS x y → notS x y = emptyS := fun x y h => ns_ext fun b hb => by
    rw [notS_bit _ _ _ hb, empty_bit]
    cases h1 : x.getLsbD b
    · rfl
    · rw [h b hb h1]; rfl
  have hz : takeE up l t0 lo hi s = 0 := by
    unfold takeE
    have hs : spanE t0 lo hi = 0 := by unfold spanE; rw [if_neg (by omega)]
    rw [if_neg (by omega), if_neg (fun h => h (e _ _ hu)), if_neg (fun h => h (e _ _ (fun b hb h3 => (durS_bit hG.prf h0 h1 hb).2 ⟨hu b hb h3, fun t h4 h5 => hf t h4 h5 b hb h3⟩))), if_neg]
    have := (turn_prf (d := emptyS) (do_ := fun f => notS f s) hG.prf h1).2.2
    omega
  exact ⟨hz, by unfold takeL; rw [if_pos hz]⟩
theorem Holds.take {t0 : Int} {up : NS} {l : List (Sp NS)} {occ : List Oc} {lo hi : Int} {s : NS} (hH : Holds t0 up l occ) (hG : Goo t0 l) (h1 : lo < hi) (hz : takeL up l t0 lo hi s = turnL 2199023255552 lo hi (fun f => notS f s) [] l) :
    Holds t0 up (takeL up l t0 lo hi s) (occ ++ [⟨s, lo, hi⟩]) := by
  intro t h3 h4 b hb
  rw [hz, (turn_prf (d := emptyS) (do_ := fun f => notS f s) hG.prf h1).2.1 t h3 h4]
  unfold turnF
  by_cases h5 : lo ≤ t ∧ t < hi
  · rw [if_pos h5, notS_bit _ _ _ hb, Bool.and_eq_true, hH t h3 h4 b hb]
    constructor
    · rintro ⟨h6, h7⟩
      refine ⟨h6.1, fun o ho h8 h9 => ?_⟩
      rcases List.mem_append.1 ho with h10 | h10
      · exact h6.2 o h10 h8 h9
      · simp at h10; subst h10; simpa using h7
    · intro h6
      refine ⟨⟨h6.1, fun o ho => h6.2 o (List.mem_append_left _ ho)⟩, ?_⟩
      have := h6.2 ⟨s, lo, hi⟩ (by simp) h5.1 h5.2
      simp [this]
  · rw [if_neg h5, hH t h3 h4 b hb]
    constructor
    · intro h6
      refine ⟨h6.1, fun o ho h8 h9 => ?_⟩
      rcases List.mem_append.1 ho with h10 | h10
      · exact h6.2 o h10 h8 h9
      · simp at h10; subst h10; exact absurd ⟨h8, h9⟩ h5
    · intro h6
      exact ⟨h6.1, fun o ho => h6.2 o (List.mem_append_left _ ho)⟩
theorem take_len {t0 : Int} {up : NS} {l : List (Sp NS)} {lo hi : Int} {s : NS} (hG : Goo t0 l) (h1 : lo < hi) (hz : takeL up l t0 lo hi s = turnL 2199023255552 lo hi (fun f => notS f s) [] l) : (takeL up l t0 lo hi s).length ≤ l.length + 2 := by
  rw [hz]
  exact (turn_prf (d := emptyS) (do_ := fun f => notS f s) hG.prf h1).2.2

/-- A job that runs; one that waits; a plan. -/
structure Ru where
  nodes : NS
  end_ : Int
structure Wi where
  id : Int
  n : Int
  long : Int
  of : NS
structure Pl where
  id : Int
  at_ : Int
  nodes : NS
abbrev until_ (now : Int) (r : Ru) : Int := max r.end_ (now + 1)
/-- The profile of what runs. -/
def busyL (now : Int) (up : NS) (rs : List Ru) : List (Sp NS) := rs.foldl (fun l r => takeL up l now now (until_ now r) r.nodes) [⟨now, up⟩]
/-- A wish's plan. -/
noncomputable def planO (up : NS) (l : List (Sp NS)) (now : Int) (w : Wi) : Option Pl := (earlT up l w.n w.long now w.of).map fun t => ⟨w.id, t, firstS (durS up l t (t + w.long) &&& w.of) w.n⟩
/-- A wish that may be. -/
structure WiOk (w : Wi) : Prop where
  id : 1 ≤ w.id
  n0 : 1 ≤ w.n
  n1 : w.n ≤ 256
  l0 : 1 ≤ w.long
  l1 : w.long ≤ 1048576
theorem firstS_mem {s : NS} {k : Int} (h : 0 ≤ k ∧ k ≤ cnt s) : subS (firstS s k) s ∧ ((cnt (firstS s k) : Nat) : Int) = k := by
  unfold firstS
  rw [if_pos h]
  constructor
  · intro b hb h1
    rw [ofL_bit] at h1
    simp only [hb, decide_true, Bool.true_and, decide_eq_true_eq] at h1
    have := mem_lst.1 (List.mem_of_mem_take h1)
    rwa [hasS_nat] at this
  · rw [cnt_ofL_rising ((lst_sorted s).sublist (List.take_sublist _ _)) (fun i hi => lst_range (List.mem_of_mem_take hi)), List.length_take, lst_length]
    omega
/-- What a plan of a wish is. -/
structure PlanOk (t0 : Int) (up : NS) (l : List (Sp NS)) (w : Wi) (x : Pl) : Prop where
  id : x.id = w.id
  ge : t0 ≤ x.at_
  le : x.at_ + w.long ≤ 2199023255552
  cnt : ((Go.Proofs.YtkgphbjneaagoaaDoor.cnt x.nodes : Nat) : Int) = w.n
  of : subS x.nodes w.of
  up_ : subS x.nodes up
  free : ∀ t, x.at_ ≤ t → t < x.at_ + w.long → subS x.nodes (frA emptyS l t)
theorem planO_ok {t0 : Int} {up : NS} {l : List (Sp NS)} {w : Wi} {x : Pl} (hG : Goo t0 l) (hw : WiOk w) (h : planO up l t0 w = some x) : PlanOk t0 up l w x ∧ EarlAt up l w.n w.long t0 w.of x.at_ := by
  unfold planO at h
  obtain ⟨t, ht, rfl⟩ := Option.map_eq_some_iff.1 h
  have hE := of_earlT ht
  have h1 := hE.will.1
  have h2 := hE.will.2
  have hl := hw.l0
  have hn := hw.n0
  have hge := hE.ge
  have hf := firstS_mem (s := durS up l t (t + w.long) &&& w.of) (k := w.n) ⟨by omega, h2⟩
  have hd : ∀ b, b < 256 → (firstS (durS up l t (t + w.long) &&& w.of) w.n).getLsbD b = true → (durS up l t (t + w.long)).getLsbD b = true ∧ w.of.getLsbD b = true := fun b hb h3 => by
    have := hf.1 b hb h3
    rw [BitVec.getLsbD_and, Bool.and_eq_true] at this
    exact this
  refine ⟨⟨rfl, hge, h1, hf.2, fun b hb h3 => (hd b hb h3).2, fun b hb h3 => ((durS_bit hG.prf hge (by omega) hb).1 (hd b hb h3).1).1, fun u h3 h4 b hb h5 => ((durS_bit hG.prf hge (by omega) hb).1 (hd b hb h5).1).2 u h3 h4⟩, hE⟩
theorem PlanOk.take {t0 : Int} {up : NS} {l : List (Sp NS)} {w : Wi} {x : Pl} (h : PlanOk t0 up l w x) (hG : Goo t0 l) (hw : WiOk w) (hl : l.length ≤ 4094) :
    takeE up l t0 x.at_ (x.at_ + w.long) x.nodes = 0 ∧ takeL up l t0 x.at_ (x.at_ + w.long) x.nodes = turnL 2199023255552 x.at_ (x.at_ + w.long) (fun f => notS f x.nodes) [] l :=
  take_ok hG h.ge (by have := hw.l0; omega) h.le h.up_ h.free hl
/-- There is no plan, where there never is enough. -/
theorem planO_none {up : NS} {l : List (Sp NS)} {now : Int} {w : Wi} (h : planO up l now w = none) : earlT up l w.n w.long now w.of = none := by
  unfold planO at h
  exact Option.map_eq_none_iff.1 h
end Go.Proofs.YtkgphbjneaagoaaDoor
