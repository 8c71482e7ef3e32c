/- More on Ms: some of them by number; one opened, several seen as one; one that says less. -/
import Derived.Test.YtflgnlpippjhcaaMu
set_option linter.unusedVariables false
namespace Go.Proofs.Ytflgnlpippjhcaa
open Go.RowKit Go.Sort

/-- Some of them, by their numbers. -/
theorem Ms.selL {w W : World} {ex : Nat → Prop} {l : List Own} (h : Ms w ex l W) (f : List Nat) (m : List Own) (hm : m.map some = f.map (fun i => l[i]?)) (hd : f.Nodup) : Ms w ex m W := by
  have hl : m.length = f.length := by have := congrArg List.length hm; simpa using this
  refine h.pick (fun i => f.getD i 0) m (fun i o hi => ?_) (fun i j hi hj he => ?_)
  · have hi2 := (List.getElem?_eq_some_iff.1 hi).1
    have h1 : (m.map some)[i]? = some (some o) := by rw [List.getElem?_map, hi]; rfl
    rw [hm, List.getElem?_map, List.getElem?_eq_getElem (show i < f.length by omega)] at h1
    simp only [Option.map_some, Option.some.injEq] at h1
    show l[f.getD i 0]? = some o
    rw [List.getD_eq_getElem?_getD, List.getElem?_eq_getElem (show i < f.length by omega)]
    exact h1
  · rw [List.getD_eq_getElem?_getD, List.getElem?_eq_getElem (show i < f.length by omega), List.getD_eq_getElem?_getD, List.getElem?_eq_getElem (show j < f.length by omega)] at he
    simp only [Option.getD_some] at he
    exact (List.getElem_inj hd).1 he
theorem app_key {α : Type} {l k : List α} {i : Nat} {o : α} (hi : (l ++ k)[i]? = some o) : (i < l.length ∧ l[i]? = some o) ∨ (l.length ≤ i ∧ k[i - l.length]? = some o) := by
  rcases Nat.lt_or_ge i l.length with h2 | h2
  · rw [List.getElem?_append_left h2] at hi; exact .inl ⟨h2, hi⟩
  · rw [List.getElem?_append_right h2] at hi; exact .inr ⟨h2, hi⟩
/-- The last one, which is several, is opened. -/
theorem Ms.unall {w W : World} {ex : Nat → Prop} {l k : List Own} (h : Ms w ex (l ++ [.all k]) W) : Ms w ex (l ++ k) W := by
  have hl : ∀ (i : Nat) (o : Own), l[i]? = some o → (l ++ [Own.all k])[i]? = some o := fun i o hi => by
    rw [List.getElem?_append_left (List.getElem?_eq_some_iff.1 hi).1]; exact hi
  have ha : (l ++ [Own.all k])[l.length]? = some (.all k) := by simp
  have hA := h.ok l.length _ ha
  refine ⟨fun i o hi => ?_, fun i o hi q hq => ?_, fun i j a b hi hj hij q h1 h2 => ?_, h.turn⟩
  · rcases app_key hi with ⟨_, h1⟩ | ⟨_, h1⟩
    · exact h.ok i o (hl i o h1)
    · exact hA.1 _ o h1
  · rcases app_key hi with ⟨_, h1⟩ | ⟨_, h1⟩
    · exact h.lo i o (hl i o h1) q hq
    · exact h.lo l.length _ ha q ⟨_, o, h1, hq⟩
  · rcases app_key hi with ⟨e1, h3⟩ | ⟨e1, h3⟩ <;> rcases app_key hj with ⟨e2, h4⟩ | ⟨e2, h4⟩
    · exact h.apart i j a b (hl i a h3) (hl j b h4) hij q h1 h2
    · exact h.apart i l.length a _ (hl i a h3) ha (by omega) q h1 ⟨_, b, h4, h2⟩
    · exact h.apart j l.length b _ (hl j b h4) ha (by omega) q h2 ⟨_, a, h3, h1⟩
    · exact hA.2 _ _ a b h3 h4 (by omega) q h1 h2
/-- The last ones are seen as one. -/
theorem Ms.reall {w W : World} {ex : Nat → Prop} {l k : List Own} (h : Ms w ex (l ++ k) W) : Ms w ex (l ++ [.all k]) W := by
  have hl : ∀ (i : Nat) (o : Own), l[i]? = some o → (l ++ k)[i]? = some o := fun i o hi => by
    rw [List.getElem?_append_left (List.getElem?_eq_some_iff.1 hi).1]; exact hi
  have hk : ∀ (i : Nat) (o : Own), k[i]? = some o → (l ++ k)[l.length + i]? = some o := fun i o hi => by
    rw [List.getElem?_append_right (by omega), show l.length + i - l.length = i by omega]; exact hi
  have key : ∀ (i : Nat) (o : Own), (l ++ [Own.all k])[i]? = some o → (i < l.length ∧ l[i]? = some o) ∨ (i = l.length ∧ o = .all k) := fun i o hi => by
    rcases snoc_key hi with h1 | h1
    · exact .inl ⟨(List.getElem?_eq_some_iff.1 h1).1, h1⟩
    · exact .inr h1
  refine ⟨fun i o hi => ?_, fun i o hi q hq => ?_, fun i j a b hi hj hij q h1 h2 => ?_, h.turn⟩
  · rcases key i o hi with ⟨_, h1⟩ | ⟨_, rfl⟩
    · exact h.ok i o (hl i o h1)
    · exact ⟨fun j b hj => h.ok _ b (hk j b hj), fun x y a b hx hy hxy => h.apart _ _ a b (hk x a hx) (hk y b hy) (by omega)⟩
  · rcases key i o hi with ⟨_, h1⟩ | ⟨_, rfl⟩
    · exact h.lo i o (hl i o h1) q hq
    · obtain ⟨j, b, hj, hb⟩ := hq
      exact h.lo _ b (hk j b hj) q hb
  · rcases key i a hi with ⟨e1, h3⟩ | ⟨e1, rfl⟩ <;> rcases key j b hj with ⟨e2, h4⟩ | ⟨e2, rfl⟩
    · exact h.apart i j a b (hl i a h3) (hl j b h4) hij q h1 h2
    · obtain ⟨y, b, hy, hb⟩ := h2
      exact h.apart i _ a b (hl i a h3) (hk y b hy) (by omega) q h1 hb
    · obtain ⟨y, a, hy, ha⟩ := h1
      exact h.apart j _ b a (hl j b h4) (hk y a hy) (by omega) q h2 ha
    · omega
/-- One of them is seen as one that says less. -/
theorem Ms.weak {w W : World} {ex : Nat → Prop} {l : List Own} (h : Ms w ex l W) (i : Nat) {o o' : Own} (hi : l[i]? = some o) (ho : o'.ok W) (hb : ∀ k, o'.bl k → o.bl k) : Ms w ex (l.set i o') W :=
  h.mut i hi (Turn.refl _ _) ho (fun k hk => .inl (hb k hk))
end Go.Proofs.Ytflgnlpippjhcaa
