/- Back: the document's profile in plain: spans of nodes that are taken. No program in sight. -/
import Derived.Test.YtkgphbjneaagoaaDoorGa
set_option linter.unusedVariables false
namespace Go.Proofs.YtkgphbjneaagoaaDoor
open Go.RowKit Go.Sort

structure Sn where
  node : Int
  lo : Int
  hi : Int
def hitB (s : Sn) (b t : Int) : Bool := decide (s.node = b) && (decide (s.lo ≤ t) && decide (t < s.hi))
def takenB (sp : List Sn) (b t : Int) : Bool := sp.any fun s => hitB s b t
/-- What is free at a time. -/
def frD (up : NS) (sp : List Sn) (t : Int) : NS := ofL ((lst up).filter fun b => !takenB sp b t)
theorem frD_bit (up : NS) (sp : List Sn) (t : Int) {b : Nat} (hb : b < 256) : (frD up sp t).getLsbD b = (up.getLsbD b && !takenB sp b t) := by
  unfold frD
  rw [ofL_bit]
  simp only [hb, decide_true, Bool.true_and]
  rw [Bool.eq_iff_iff, decide_eq_true_eq, List.mem_filter, mem_lst, hasS_nat, Bool.and_eq_true]
theorem hit_iff {s : Sn} {b t : Int} : hitB s b t = true ↔ s.node = b ∧ s.lo ≤ t ∧ t < s.hi := by unfold hitB; simp
theorem taken_iff {sp : List Sn} {b t : Int} : takenB sp b t = true ↔ ∃ s ∈ sp, s.node = b ∧ s.lo ≤ t ∧ t < s.hi := by
  unfold takenB
  rw [List.any_eq_true]
  exact ⟨fun ⟨s, h1, h2⟩ => ⟨s, h1, hit_iff.1 h2⟩, fun ⟨s, h1, h2⟩ => ⟨s, h1, hit_iff.2 h2⟩⟩
/-! ### the times at which anything begins or ends -/
def pts (sp : List Sn) : List Int := sp.flatMap fun s => [s.lo, s.hi]
def posI (E : List Int) (t : Int) : Nat := (E.takeWhile fun x => decide (x < t)).length
def insE (E : List Int) (t : Int) : List Int := if E[posI E t]? = some t ∨ 2199023255552 ≤ t then E else E.take (posI E t) ++ t :: E.drop (posI E t)
def endsL (first : Int) (sp : List Sn) : List Int := (pts sp).foldl insE [first]
theorem take_tw {α : Type} (p : α → Bool) : ∀ E : List α, E.take (E.takeWhile p).length = E.takeWhile p
  | [] => rfl
  | x :: E => by
    rw [List.takeWhile_cons]
    split
    · rw [List.length_cons, List.take_succ_cons, take_tw p E]
    · rfl
theorem mem_tw {α : Type} {p : α → Bool} : ∀ {E : List α} {x : α}, x ∈ E.takeWhile p → p x = true
  | [], x, h => by cases h
  | y :: E, x, h => by
    rw [List.takeWhile_cons] at h
    split at h
    · rename_i hy
      rcases List.mem_cons.1 h with rfl | h
      · exact hy
      · exact mem_tw h
    · cases h
theorem take_pos (E : List Int) (t : Int) : E.take (posI E t) = E.takeWhile fun x => decide (x < t) := by
  unfold posI
  exact take_tw _ E
theorem ins_props {E : List Int} (hE : E.Pairwise (· < ·)) (t : Int) : (insE E t).Pairwise (· < ·) ∧ (∀ x, x ∈ insE E t ↔ x ∈ E ∨ (x = t ∧ t < 2199023255552)) ∧ (insE E t).length ≤ E.length + 1 := by
  unfold insE
  by_cases h : E[posI E t]? = some t ∨ 2199023255552 ≤ t
  · rw [if_pos h]
    refine ⟨hE, fun x => ⟨.inl, fun h2 => ?_⟩, by omega⟩
    rcases h2 with h2 | ⟨rfl, h3⟩
    · exact h2
    · rcases h with h | h
      · exact List.mem_of_getElem? h
      · omega
  · rw [if_neg h]
    have h1 : ¬ E[posI E t]? = some t := fun e => h (.inl e)
    have h2 : t < 2199023255552 := by
      rcases Int.lt_or_le t 2199023255552 with h3 | h3
      · exact h3
      · exact absurd (.inr h3) h
    have hA : ∀ x ∈ E.take (posI E t), x < t := fun x hx => by
      rw [take_pos] at hx
      simpa using mem_tw hx
    have hcut : E.take (posI E t) ++ E.drop (posI E t) = E := List.take_append_drop _ _
    have hpos : posI E t ≤ E.length := by unfold posI; exact (List.takeWhile_sublist _).length_le
    have hhead : ∀ x, E[posI E t]? = some x → ¬ x < t := fun x hx hlt => by
      have h5 : E.takeWhile (fun x => decide (x < t)) = E.take (posI E t) := (take_pos E t).symm
      obtain ⟨h6, h7⟩ := List.getElem?_eq_some_iff.1 hx
      have h8 : E.take (posI E t + 1) = E.take (posI E t) ++ [x] := take_one hx
      have h9 : (E.take (posI E t + 1)).takeWhile (fun x => decide (x < t)) = E.take (posI E t + 1) := by
        rw [h8, List.takeWhile_append_of_pos (fun y hy => by simpa using hA y hy)]
        simp [hlt]
      have h10 : E = E.take (posI E t + 1) ++ E.drop (posI E t + 1) := (List.take_append_drop _ _).symm
      have h11 : E.takeWhile (fun x => decide (x < t)) = E.take (posI E t + 1) ++ (E.drop (posI E t + 1)).takeWhile (fun x => decide (x < t)) := by
        conv => lhs; rw [h10]
        exact List.takeWhile_append_of_pos (fun y hy => by
          rw [h8] at hy
          rcases List.mem_append.1 hy with h12 | h12
          · simpa using hA y h12
          · simp at h12; subst h12; simpa using hlt)
      have h12 := congrArg List.length h11
      rw [List.length_append, List.length_take] at h12
      have : (E.takeWhile fun x => decide (x < t)).length = posI E t := rfl
      omega
    have hB : ∀ x ∈ E.drop (posI E t), t < x := fun x hx => by
      obtain ⟨i, hi, e⟩ := List.getElem_of_mem hx
      rw [List.length_drop] at hi
      rw [List.getElem_drop] at e
      have h3 : posI E t < E.length := by omega
      have h4 := hhead E[posI E t] (List.getElem?_eq_getElem h3)
      have h5 : E[posI E t] ≠ t := fun e => h1 (by rw [List.getElem?_eq_getElem h3, e])
      rcases Nat.eq_zero_or_pos i with h6 | h6
      · subst h6
        simp only [Nat.add_zero] at e
        subst e
        omega
      · have := List.pairwise_iff_getElem.1 hE (posI E t) (posI E t + i) h3 (by omega) (by omega)
        rw [e] at this
        omega
    refine ⟨?_, fun x => ?_, ?_⟩
    · rw [List.pairwise_append]
      refine ⟨hE.sublist (List.take_sublist _ _), List.pairwise_cons.2 ⟨hB, hE.sublist (List.drop_sublist _ _)⟩, fun a ha b hb => ?_⟩
      rcases List.mem_cons.1 hb with rfl | hb
      · exact hA a ha
      · have := hA a ha; have := hB b hb; omega
    · rw [List.mem_append, List.mem_cons]
      conv => rhs; rw [← hcut, List.mem_append]
      constructor
      · rintro (h3 | rfl | h3)
        · exact .inl (.inl h3)
        · exact .inr ⟨rfl, h2⟩
        · exact .inl (.inr h3)
      · rintro ((h3 | h3) | ⟨rfl, _⟩)
        · exact .inl h3
        · exact .inr (.inr h3)
        · exact .inr (.inl rfl)
    · rw [List.length_append, List.length_cons, List.length_take, List.length_drop]
      omega
theorem ends_fold : ∀ (l : List Int) {E : List Int}, E.Pairwise (· < ·) → (l.foldl insE E).Pairwise (· < ·) ∧ (∀ x, x ∈ l.foldl insE E ↔ x ∈ E ∨ (x ∈ l ∧ x < 2199023255552)) ∧ (l.foldl insE E).length ≤ E.length + l.length
  | [], E, hE => ⟨hE, fun x => by simp, by simp⟩
  | t :: l, E, hE => by
    obtain ⟨h1, h2, h3⟩ := ins_props hE t
    obtain ⟨h4, h5, h6⟩ := ends_fold l h1
    rw [List.foldl_cons]
    refine ⟨h4, fun x => ?_, by rw [List.length_cons]; omega⟩
    rw [h5, h2, List.mem_cons]
    constructor
    · rintro ((h | ⟨rfl, h⟩) | ⟨h, h7⟩)
      · exact .inl h
      · exact .inr ⟨.inl rfl, h⟩
      · exact .inr ⟨.inr h, h7⟩
    · rintro (h | ⟨rfl | h, h7⟩)
      · exact .inl (.inl h)
      · exact .inl (.inr ⟨rfl, h7⟩)
      · exact .inr ⟨h, h7⟩
theorem pts_len (sp : List Sn) : (pts sp).length = 2 * sp.length := by
  unfold pts
  induction sp with
  | nil => rfl
  | cons x sp ih => rw [List.flatMap_cons, List.length_append, ih]; simp; omega
theorem ends_props (first : Int) (sp : List Sn) : (endsL first sp).Pairwise (· < ·) ∧ (∀ x, x ∈ endsL first sp ↔ x = first ∨ (x ∈ pts sp ∧ x < 2199023255552)) ∧ (endsL first sp).length ≤ 1 + 2 * sp.length := by
  have h := ends_fold (pts sp) (E := [first]) (List.pairwise_singleton _ _)
  unfold endsL
  rw [pts_len] at h
  refine ⟨h.1, fun x => ?_, h.2.2⟩
  rw [h.2.1, List.mem_singleton]
theorem lo_pts {sp : List Sn} {s : Sn} (h : s ∈ sp) : s.lo ∈ pts sp := List.mem_flatMap.2 ⟨s, h, by simp⟩
theorem hi_pts {sp : List Sn} {s : Sn} (h : s ∈ sp) : s.hi ∈ pts sp := List.mem_flatMap.2 ⟨s, h, by simp⟩
/-! ### all through a span -/
def durD (up : NS) (sp : List Sn) (E : List Int) (lo hi : Int) : NS := E.foldl (fun s t => if lo < t ∧ t < hi then s &&& frD up sp t else s) (frD up sp lo)
theorem dur_fold (up : NS) (sp : List Sn) (lo hi : Int) {b : Nat} : ∀ (E : List Int) (s : NS), (E.foldl (fun s t => if lo < t ∧ t < hi then s &&& frD up sp t else s) s).getLsbD b = true ↔ s.getLsbD b = true ∧ ∀ t ∈ E, lo < t → t < hi → (frD up sp t).getLsbD b = true
  | [], s => by simp
  | e :: E, s => by
    rw [List.foldl_cons, dur_fold up sp lo hi E]
    by_cases h : lo < e ∧ e < hi
    · rw [if_pos h, BitVec.getLsbD_and, Bool.and_eq_true]
      constructor
      · rintro ⟨⟨h1, h2⟩, h3⟩
        refine ⟨h1, fun t ht => ?_⟩
        rcases List.mem_cons.1 ht with rfl | ht
        · exact fun _ _ => h2
        · exact h3 t ht
      · rintro ⟨h1, h2⟩
        exact ⟨⟨h1, h2 e (List.mem_cons_self ..) h.1 h.2⟩, fun t ht => h2 t (List.mem_cons_of_mem _ ht)⟩
    · rw [if_neg h]
      constructor
      · rintro ⟨h1, h3⟩
        refine ⟨h1, fun t ht h4 h5 => ?_⟩
        rcases List.mem_cons.1 ht with rfl | ht
        · exact absurd ⟨h4, h5⟩ h
        · exact h3 t ht h4 h5
      · rintro ⟨h1, h2⟩
        exact ⟨h1, fun t ht => h2 t (List.mem_cons_of_mem _ ht)⟩
theorem durD_bit {up : NS} {sp : List Sn} {first lo hi : Int} (h1 : lo < hi) (h2 : hi ≤ 2199023255552) {b : Nat} (hb : b < 256) :
    (durD up sp (endsL first sp) lo hi).getLsbD b = true ↔ ∀ t, lo ≤ t → t < hi → (frD up sp t).getLsbD b = true := by
  unfold durD
  rw [dur_fold]
  constructor
  · rintro ⟨h3, h4⟩ t h5 h6
    have hup : up.getLsbD b = true := by rw [frD_bit _ _ _ hb, Bool.and_eq_true] at h3; exact h3.1
    rw [frD_bit _ _ _ hb, hup, Bool.true_and]
    cases h7 : takenB sp b t
    · rfl
    · obtain ⟨s, hs, h8, h9, h10⟩ := taken_iff.1 h7
      rcases Int.lt_or_le lo s.lo with h11 | h11
      · have h12 := h4 s.lo (((ends_props first sp).2.1 _).2 (.inr ⟨lo_pts hs, by omega⟩)) h11 (by omega)
        rw [frD_bit _ _ _ hb, hup, Bool.true_and, taken_iff.2 ⟨s, hs, h8, Int.le_refl _, by omega⟩] at h12
        exact h12
      · rw [frD_bit _ _ _ hb, hup, Bool.true_and, taken_iff.2 ⟨s, hs, h8, h11, by omega⟩] at h3
        exact h3
  · intro h3
    exact ⟨h3 lo (Int.le_refl _) h1, fun t _ h4 h5 => h3 t (by omega) h5⟩
/-- The document's profile and the code's tell the same. -/
def HoldsD (t0 : Int) (up : NS) (sp : List Sn) (l : List (Sp NS)) : Prop := ∀ t, t0 ≤ t → t < 2199023255552 → frD up sp t = frA emptyS l t
theorem holdsD_one (t0 : Int) (up : NS) : HoldsD t0 up [] [⟨t0, up⟩] := fun t h1 h2 => ns_ext fun b hb => by
  rw [frD_bit _ _ _ hb]
  show (up.getLsbD b && true) = _
  rw [Bool.and_true]
  rfl
theorem durD_eq {t0 : Int} {up : NS} {sp : List Sn} {l : List (Sp NS)} (hD : HoldsD t0 up sp l) (hG : Goo t0 l) {lo hi : Int} (h0 : t0 ≤ lo) (h1 : lo < hi) (h2 : hi ≤ 2199023255552) (first : Int) :
    durD up sp (endsL first sp) lo hi = durS up l lo hi := ns_ext fun b hb => by
  rw [Bool.eq_iff_iff, durD_bit h1 h2 hb, durS_bit hG.prf h0 h1 hb]
  constructor
  · intro h3
    refine ⟨?_, fun t h4 h5 => by rw [← hD t (by omega) (by omega)]; exact h3 t h4 h5⟩
    have := h3 lo (Int.le_refl _) h1
    rw [frD_bit _ _ _ hb, Bool.and_eq_true] at this
    exact this.1
  · rintro ⟨_, h3⟩ t h4 h5
    rw [hD t (by omega) (by omega)]
    exact h3 t h4 h5
/-! ### taking -/
def snL (s : NS) (lo hi : Int) : List Sn := (lst s).map fun b => ⟨b, lo, hi⟩
theorem taken_app (sp : List Sn) (s : NS) (lo hi : Int) {b : Nat} (hb : b < 256) (t : Int) : takenB (sp ++ snL s lo hi) b t = (takenB sp b t || (s.getLsbD b && (decide (lo ≤ t) && decide (t < hi)))) := by
  rw [Bool.eq_iff_iff, Bool.or_eq_true, taken_iff, taken_iff]
  simp only [Bool.and_eq_true, decide_eq_true_eq]
  constructor
  · rintro ⟨x, hx, h1, h2, h3⟩
    rcases List.mem_append.1 hx with h4 | h4
    · exact .inl ⟨x, h4, h1, h2, h3⟩
    · obtain ⟨c, hc, rfl⟩ := List.mem_map.1 h4
      simp only at h1 h2 h3
      subst h1
      have := mem_lst.1 hc
      rw [hasS_nat] at this
      exact .inr ⟨this, h2, h3⟩
  · rintro (⟨x, hx, h1⟩ | ⟨h1, h2, h3⟩)
    · exact ⟨x, List.mem_append_left _ hx, h1⟩
    · exact ⟨⟨b, lo, hi⟩, List.mem_append_right _ (List.mem_map.2 ⟨b, mem_lst.2 (by rw [hasS_nat]; exact h1), rfl⟩), rfl, h2, h3⟩
theorem HoldsD.take {t0 : Int} {up : NS} {sp : List Sn} {l : List (Sp NS)} {lo hi : Int} {s : NS} (hD : HoldsD t0 up sp l) (hG : Goo t0 l) (h1 : lo < hi) (hz : takeL up l t0 lo hi s = turnL 2199023255552 lo hi (fun f => notS f s) [] l) :
    HoldsD t0 up (sp ++ snL s lo hi) (takeL up l t0 lo hi s) := fun t h2 h3 => ns_ext fun b hb => by
  rw [hz, (turn_prf (d := emptyS) (do_ := fun f => notS f s) hG.prf h1).2.1 t h2 h3, frD_bit _ _ _ hb, taken_app _ _ _ _ hb]
  have h4 : (frA emptyS l t).getLsbD b = (up.getLsbD b && !takenB sp b t) := by rw [← hD t h2 h3, frD_bit _ _ _ hb]
  unfold turnF
  by_cases h5 : lo ≤ t ∧ t < hi
  · rw [if_pos h5, notS_bit _ _ _ hb, h4]
    simp only [h5.1, h5.2, decide_true, Bool.and_self, Bool.and_true]
    cases up.getLsbD b <;> cases takenB sp b t <;> cases s.getLsbD b <;> rfl
  · rw [if_neg h5, h4]
    have h6 : (decide (lo ≤ t) && decide (t < hi)) = false := by
      cases h7 : (decide (lo ≤ t) && decide (t < hi))
      · rfl
      · simp at h7; exact absurd h7 h5
    rw [h6, Bool.and_false, Bool.or_false]
/-! ### the earliest -/
def okE (up : NS) (sp : List Sn) (E : List Int) (n long lo : Int) (of : NS) (t : Int) : Bool := (decide (lo ≤ t) && decide (t ≤ 2199023255552 - long)) && decide (n ≤ ((cnt (durD up sp E t (t + long) &&& of) : Nat) : Int))
theorem will_earl {up : NS} {l : List (Sp NS)} {n long lo : Int} {of : NS} {u : Int} (h1 : lo ≤ u) (h2 : Will up l 2199023255552 n long of u) : ∃ t, EarlAt up l n long lo of t := by
  have key : ∀ k : Nat, ∀ u, lo ≤ u → (u - lo).toNat = k → Will up l 2199023255552 n long of u → ∃ t, EarlAt up l n long lo of t := by
    intro k
    induction k using Nat.strongRecOn with
    | _ k ih =>
      intro u hu1 hu3 hu4
      by_cases hx : ∃ v, lo ≤ v ∧ v < u ∧ Will up l 2199023255552 n long of v
      · obtain ⟨v, hv1, hv2, hv3⟩ := hx
        exact ih (v - lo).toNat (by omega) v hv1 rfl hv3
      · exact ⟨u, hu1, hu4, fun v h2 h3 h4 => hx ⟨v, h2, h3, h4⟩⟩
  exact key _ u h1 rfl h2
theorem earlD_eq {t0 : Int} {up : NS} {sp : List Sn} {l : List (Sp NS)} (hD : HoldsD t0 up sp l) (hG : Goo t0 l) {n long lo : Int} {of : NS} (hl : 1 ≤ long) (h0 : t0 ≤ lo) :
    (lo :: endsL t0 sp).find? (okE up sp (endsL t0 sp) n long lo of) = earlT up l n long lo of := by
  have hw : ∀ t, lo ≤ t → (okE up sp (endsL t0 sp) n long lo of t = true ↔ Will up l 2199023255552 n long of t) := fun t ht => by
    unfold okE Will
    simp only [Bool.and_eq_true, decide_eq_true_eq]
    constructor
    · rintro ⟨⟨_, h2⟩, h3⟩
      rw [durD_eq hD hG (by omega) (by omega) (by omega)] at h3
      exact ⟨by omega, h3⟩
    · rintro ⟨h2, h3⟩
      rw [durD_eq hD hG (by omega) (by omega) (by omega)]
      exact ⟨⟨ht, by omega⟩, h3⟩
  cases he : earlT up l n long lo of with
  | some t =>
    have hE := of_earlT he
    have hge := hE.ge
    have hok := (hw t hge).2 hE.will
    have hbef : ∀ a, lo ≤ a → a < t → (okE up sp (endsL t0 sp) n long lo of a) = false := fun a h1 h2 => by
      cases h3 : okE up sp (endsL t0 sp) n long lo of a
      · rfl
      · exact absurd ((hw a h1).1 h3) (hE.least a h1 h2)
    have hless : ∀ a, a < lo → (okE up sp (endsL t0 sp) n long lo of a) = false := fun a h1 => by
      unfold okE
      rw [show decide (lo ≤ a) = false from decide_eq_false (by omega)]
      rfl
    rw [List.find?_eq_some_iff_append]
    refine ⟨hok, ?_⟩
    by_cases h1 : t = lo
    · exact ⟨[], endsL t0 sp, by rw [h1]; rfl, fun a ha => by cases ha⟩
    · have hin : t ∈ endsL t0 sp := by
        rcases Decidable.em (t ∈ endsL t0 sp) with h2 | h2
        · exact h2
        · exfalso
          have hnp : ∀ s ∈ sp, s.lo ≠ t ∧ s.hi ≠ t := fun s hs => by
            have hlt : t < 2199023255552 := by have := hE.will.1; omega
            exact ⟨fun e => h2 (((ends_props t0 sp).2.1 t).2 (.inr ⟨e ▸ lo_pts hs, hlt⟩)), fun e => h2 (((ends_props t0 sp).2.1 t).2 (.inr ⟨e ▸ hi_pts hs, hlt⟩))⟩
          refine hE.least (t - 1) (by omega) (by omega) ?_
          have hwl := hE.will
          refine ⟨by have := hwl.1; omega, ?_⟩
          refine Int.le_trans hwl.2 ?_
          have hsub : subS (durS up l t (t + long) &&& of) (durS up l (t - 1) (t - 1 + long) &&& of) := fun b hb h3 => by
            rw [BitVec.getLsbD_and, Bool.and_eq_true] at h3 ⊢
            refine ⟨?_, h3.2⟩
            obtain ⟨h4, h5⟩ := (durS_bit hG.prf (by omega) (by omega) hb).1 h3.1
            refine (durS_bit hG.prf (by omega) (by omega) hb).2 ⟨h4, fun u h6 h7 => ?_⟩
            rcases Int.lt_or_le u t with h8 | h8
            · have hu : u = t - 1 := by omega
              subst hu
              have h9 := h5 t (Int.le_refl _) (by omega)
              rw [← hD t (by omega) (by have := hwl.1; omega), frD_bit _ _ _ hb, h4, Bool.true_and] at h9
              rw [← hD (t - 1) (by omega) (by have := hwl.1; omega), frD_bit _ _ _ hb, h4, Bool.true_and]
              cases h10 : takenB sp b (t - 1)
              · rfl
              · obtain ⟨s, hs, h11, h12, h13⟩ := taken_iff.1 h10
                have := hnp s hs
                rw [taken_iff.2 ⟨s, hs, h11, by omega, by omega⟩] at h9
                exact h9
            · exact h5 u h8 (by omega)
          exact_mod_cast hsub.cnt
      obtain ⟨A, B, hAB⟩ := List.append_of_mem hin
      refine ⟨lo :: A, B, by rw [hAB]; rfl, fun a ha => ?_⟩
      have hlt : a = lo ∨ a < t := by
        rcases List.mem_cons.1 ha with h2 | h2
        · exact .inl h2
        · have := (ends_props t0 sp).1
          rw [hAB, List.pairwise_append] at this
          exact .inr (this.2.2 a h2 t (List.mem_cons_self ..))
      have : okE up sp (endsL t0 sp) n long lo of a = false := by
        rcases hlt with rfl | h2
        · exact hbef a (Int.le_refl _) (by omega)
        · rcases Int.lt_or_le a lo with h3 | h3
          · exact hless a h3
          · exact hbef a h3 h2
      rw [this]; rfl
  | none =>
    rw [List.find?_eq_none]
    intro t ht h1
    have hge : lo ≤ t := by
      unfold okE at h1
      simp only [Bool.and_eq_true, decide_eq_true_eq] at h1
      exact h1.1.1
    obtain ⟨t2, h2⟩ := will_earl hge ((hw t hge).1 h1)
    rw [earlT_some h2] at he
    cases he
end Go.Proofs.YtkgphbjneaagoaaDoor
