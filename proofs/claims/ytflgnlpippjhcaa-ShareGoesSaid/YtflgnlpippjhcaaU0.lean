/- Share: plain facts: ledgers as rising lists, and the maps that they are. No program in sight. -/
import Derived.Maps.Own
import Derived.Maps.Ext
import Derived.Maps.Views
import Derived.Sort.KeysCollected
import Derived.Sort.Walk0
set_option linter.unusedVariables false
namespace Go.Proofs.Ytflgnlpippjhcaa
open Go.RowKit Go.Sort Go.Maps

abbrev Nm := List UInt8
/-- An account: what is had, and of when. -/
structure Ac where
  has : Int
  at_ : Int
abbrev Led := List (Nm × Ac)
def Ris (L : Led) : Prop := L.Pairwise fun p q => p.1 < q.1
def look : Led → Nm → Option Ac
  | [], _ => none
  | (m, b) :: r, n => if m = n then some b else look r n
def put : Led → Nm → Ac → Led
  | [], n, a => [(n, a)]
  | (m, b) :: r, n, a => if m < n then (m, b) :: put r n a else if m = n then (n, a) :: r else (n, a) :: (m, b) :: r

theorem nm_lt_or (m n : Nm) : m < n ∨ m = n ∨ n < m := by
  by_cases h : m < n
  · exact .inl h
  · by_cases h2 : n < m
    · exact .inr (.inr h2)
    · exact .inr (.inl (List.le_antisymm (List.not_lt.1 h2) (List.not_lt.1 h)))
theorem nm_irrefl (m : Nm) : ¬ m < m := List.lt_irrefl m
theorem nm_ne {m n : Nm} (h : m < n) : m ≠ n := fun e => nm_irrefl n (e ▸ h)
theorem nm_trans {a b c : Nm} (h : a < b) (k : b < c) : a < c := List.lt_trans h k
theorem nm_asymm {a b : Nm} (h : a < b) : ¬ b < a := fun k => nm_irrefl a (nm_trans h k)

theorem look_none {L : Led} {n : Nm} : look L n = none ↔ ∀ p ∈ L, p.1 ≠ n := by
  induction L with
  | nil => simp [look]
  | cons x r ih =>
    obtain ⟨m, b⟩ := x
    unfold look
    by_cases h : m = n
    · simp [h]
    · rw [if_neg h, ih]
      simp [h]
theorem look_mem {L : Led} {n : Nm} {a : Ac} (h : look L n = some a) : (n, a) ∈ L := by
  induction L with
  | nil => cases h
  | cons x r ih =>
    obtain ⟨m, b⟩ := x
    unfold look at h
    by_cases e : m = n
    · rw [if_pos e] at h
      cases h; subst e
      exact List.mem_cons_self ..
    · rw [if_neg e] at h
      exact List.mem_cons_of_mem _ (ih h)
theorem look_of_mem {L : Led} (hL : Ris L) {n : Nm} {a : Ac} (h : (n, a) ∈ L) : look L n = some a := by
  induction L with
  | nil => cases h
  | cons x r ih =>
    obtain ⟨m, b⟩ := x
    obtain ⟨h1, h2⟩ := List.pairwise_cons.1 hL
    unfold look
    rcases List.mem_cons.1 h with e | h3
    · cases e
      rw [if_pos rfl]
    · rw [if_neg (nm_ne (h1 (n, a) h3))]
      exact ih h2 h3
theorem mem_put {L : Led} {n : Nm} {a : Ac} {p : Nm × Ac} (h : p ∈ put L n a) : p = (n, a) ∨ p ∈ L := by
  induction L with
  | nil => simp [put] at h; exact .inl h
  | cons x r ih =>
    obtain ⟨m, b⟩ := x
    unfold put at h
    by_cases h1 : m < n
    · rw [if_pos h1] at h
      rcases List.mem_cons.1 h with rfl | h
      · exact .inr (List.mem_cons_self ..)
      · exact (ih h).imp id (List.mem_cons_of_mem _)
    · rw [if_neg h1] at h
      by_cases h2 : m = n
      · rw [if_pos h2] at h
        exact (List.mem_cons.1 h).imp id (List.mem_cons_of_mem _)
      · rw [if_neg h2] at h
        exact List.mem_cons.1 h
theorem put_ris {L : Led} (hL : Ris L) (n : Nm) (a : Ac) : Ris (put L n a) := by
  induction L with
  | nil => exact List.pairwise_singleton _ _
  | cons x r ih =>
    obtain ⟨m, b⟩ := x
    obtain ⟨h1, h2⟩ := List.pairwise_cons.1 hL
    unfold put
    by_cases h3 : m < n
    · rw [if_pos h3]
      refine List.pairwise_cons.2 ⟨fun p hp => ?_, ih h2⟩
      rcases mem_put hp with rfl | hp
      · exact h3
      · exact h1 p hp
    · rw [if_neg h3]
      by_cases h4 : m = n
      · rw [if_pos h4]
        subst h4
        exact List.pairwise_cons.2 ⟨h1, h2⟩
      · rw [if_neg h4]
        have h5 : n < m := ((nm_lt_or m n).resolve_left h3).resolve_left h4
        refine List.pairwise_cons.2 ⟨fun p hp => ?_, hL⟩
        rcases List.mem_cons.1 hp with rfl | hp
        · exact h5
        · exact nm_trans h5 (h1 p hp)
theorem look_put_same (L : Led) (n : Nm) (a : Ac) : look (put L n a) n = some a := by
  induction L with
  | nil => simp [put, look]
  | cons x r ih =>
    obtain ⟨m, b⟩ := x
    unfold put
    by_cases h3 : m < n
    · rw [if_pos h3]
      unfold look
      rw [if_neg (nm_ne h3)]
      exact ih
    · rw [if_neg h3]
      split <;> simp [look]
theorem look_put_other (L : Led) {n k : Nm} (a : Ac) (hk : k ≠ n) : look (put L n a) k = look L k := by
  induction L with
  | nil => simp [put, look, hk.symm]
  | cons x r ih =>
    obtain ⟨m, b⟩ := x
    unfold put
    by_cases h3 : m < n
    · rw [if_pos h3]
      unfold look
      rw [ih]
    · rw [if_neg h3]
      by_cases h4 : m = n
      · rw [if_pos h4]
        subst h4
        simp [look, hk.symm]
      · rw [if_neg h4]
        simp [look, hk.symm]
theorem put_len {L : Led} (hL : Ris L) (n : Nm) (a : Ac) : (put L n a).length = L.length + (if (look L n).isSome then 0 else 1) := by
  induction L with
  | nil => simp [put, look]
  | cons x r ih =>
    obtain ⟨m, b⟩ := x
    obtain ⟨h1, h2⟩ := List.pairwise_cons.1 hL
    unfold put
    by_cases h3 : m < n
    · rw [if_pos h3]
      unfold look
      rw [if_neg (nm_ne h3), List.length_cons, ih h2, List.length_cons]
      omega
    · rw [if_neg h3]
      by_cases h4 : m = n
      · rw [if_pos h4]
        unfold look
        rw [if_pos h4]
        simp
      · rw [if_neg h4]
        have h5 : n < m := ((nm_lt_or m n).resolve_left h3).resolve_left h4
        have h6 : look ((m, b) :: r) n = none := look_none.2 fun p hp => by
          rcases List.mem_cons.1 hp with rfl | hp
          · exact h4
          · exact (nm_ne (nm_trans h5 (h1 p hp))).symm
        rw [h6]
        simp
/-! ### the map -/
theorem before_eq : ∀ (x y : Nm), bytesBefore x y = decide (x < y)
  | [], [] => by simp [bytesBefore]
  | [], _ :: _ => by simp [bytesBefore]
  | _ :: _, [] => by simp [bytesBefore]
  | a :: r, b :: s => by
    unfold bytesBefore
    rw [before_eq r s]
    rw [Bool.eq_iff_iff, decide_eq_true_eq, List.cons_lt_cons_iff]
    simp
abbrev acD (a : Ac) : DataW Unit := .agg [.lit (.int .i64 a.has), .lit (.int .i64 a.at_)]
abbrev ent (p : Nm × Ac) : Lit × DataW Unit := (.string p.1, acD p.2)
def ledD (L : Led) : DataW Unit := .map (L.map ent)
theorem ledD_map (L : Led) : IsMap (ledD L) := ⟨_, rfl⟩
theorem same_str (m n : Nm) : (Lit.string m).sameKey (.string n) = (m == n) := rfl
theorem led_at (L : Led) (n : Nm) (z : DataW Unit) : (ledD L).atKey (.string n) z = ((look L n).map acD).getD z := by
  induction L with
  | nil => rfl
  | cons x r ih =>
    obtain ⟨m, b⟩ := x
    unfold look
    by_cases e : m = n
    · subst e
      rw [if_pos rfl]
      simp [ledD, DataW.atKey, same_str]
    · rw [if_neg e, ← ih]
      have : (m == n) = false := beq_false_of_ne e
      simp [ledD, DataW.atKey, same_str, this]
theorem led_has (L : Led) (n : Nm) : Maps.has (ledD L) (.string n) = (look L n).isSome := by
  induction L with
  | nil => rfl
  | cons x r ih =>
    obtain ⟨m, b⟩ := x
    unfold look
    by_cases e : m = n
    · subst e
      rw [if_pos rfl]
      simp [ledD, has_eq, same_str]
    · rw [if_neg e, ← ih]
      have : (m == n) = false := beq_false_of_ne e
      simp [ledD, has_eq, same_str, this]
theorem led_size (L : Led) : Maps.size (ledD L) = L.length := by simp [ledD, size_eq]
theorem insert_all (x : Lit × DataW Unit) (n : Nm) (hx : x.1 = .string n) : ∀ l : Led, (∀ p ∈ l, n < p.1) → DataW.insert x (l.map ent) = x :: l.map ent
  | [], _ => rfl
  | (m, b) :: r, h => by
    have h1 : bytesBefore n m = true := by rw [before_eq]; exact decide_eq_true (h (m, b) (List.mem_cons_self ..))
    rw [List.map_cons]
    unfold DataW.insert
    rw [if_pos (by rw [hx]; exact h1)]
theorem filter_all {n : Nm} {l : Led} (h : ∀ p ∈ l, p.1 ≠ n) : (l.map ent).filter (fun p => !p.1.sameKey (.string n)) = l.map ent := by
  rw [List.filter_eq_self]
  intro q hq
  obtain ⟨p, hp, rfl⟩ := List.mem_map.1 hq
  simp [same_str, h p hp]
theorem led_put {L : Led} (hL : Ris L) (n : Nm) (a : Ac) : (ledD L).put (.string n) (acD a) = ledD (put L n a) := by
  show DataW.map (DataW.insert (.string n, acD a) ((L.map ent).filter fun p => !p.1.sameKey (.string n))) = .map ((put L n a).map ent)
  refine congrArg _ ?_
  induction L with
  | nil => rfl
  | cons x r ih =>
    obtain ⟨m, b⟩ := x
    obtain ⟨h1, h2⟩ := List.pairwise_cons.1 hL
    unfold put
    by_cases h3 : m < n
    · rw [if_pos h3, List.map_cons, List.filter_cons_of_pos (by simp [same_str, nm_ne h3])]
      have h4 : bytesBefore n m = false := by rw [before_eq]; exact decide_eq_false (nm_asymm h3)
      unfold DataW.insert
      rw [if_neg (by show ¬ bytesBefore n m = true; rw [h4]; decide), ih h2, List.map_cons]
    · rw [if_neg h3]
      by_cases h4 : m = n
      · rw [if_pos h4]
        subst h4
        have h5 : ∀ p ∈ r, m < p.1 := h1
        rw [List.map_cons, List.filter_cons_of_neg (by simp [same_str]), filter_all (fun p hp => (nm_ne (h5 p hp)).symm), insert_all _ m rfl r h5, List.map_cons]
      · rw [if_neg h4]
        have h5 : n < m := ((nm_lt_or m n).resolve_left h3).resolve_left h4
        have h6 : ∀ p ∈ (m, b) :: r, n < p.1 := fun p hp => by
          rcases List.mem_cons.1 hp with rfl | hp
          · exact h5
          · exact nm_trans h5 (h1 p hp)
        rw [filter_all (fun p hp => (nm_ne (h6 p hp)).symm), insert_all _ n rfl _ h6]
        rfl
theorem led_keys (L : Led) : strKeys (ledD L) = L.map (·.1) := by
  show (L.map ent).map (fun p => strOf p.1) = L.map (·.1)
  rw [List.map_map]
  rfl
/-- The keys in order. -/
theorem names_sorted {L : Led} (hL : Ris L) : (L.map (·.1)).mergeSort leB = L.map (·.1) := by
  refine List.mergeSort_of_pairwise ?_
  rw [List.pairwise_map]
  exact hL.imp fun h => decide_eq_true (List.le_of_lt h)
end Go.Proofs.Ytflgnlpippjhcaa
