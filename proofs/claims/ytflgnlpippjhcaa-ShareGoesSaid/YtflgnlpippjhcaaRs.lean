/- Slices of structs, read and owned: each element by its cells. -/
import Derived.Test.YtflgnlpippjhcaaMu
set_option linter.unusedVariables false
namespace Go.Proofs.Ytflgnlpippjhcaa
open Go.RowKit Go.Sort

section
variable {α : Type} {k : Nat} {c : α → List Value} {w w' : World} {A : Option Addr} {n : Nat} {l : List α}
/-- The slice value '.slice A n _' reads as these, of k cells each. -/
def RdS (k : Nat) (c : α → List Value) (w : World) (A : Option Addr) (n : Nat) (l : List α) : Prop :=
  l.length = n ∧ n ≤ 9223372036854775807 ∧ (0 < n → ∃ ad, A = some ad ∧ ∀ i x, l[i]? = some x → ∀ j v, (c x)[j]? = some v → w.cell? ((ad.add (i * k)).add j) = some v)
theorem RdS.below (h : RdS k c w A n l) (hb : Below w.heap.size w w') : RdS k c w' A n l :=
  ⟨h.1, h.2.1, fun hn => by
    obtain ⟨ad, e, hc⟩ := h.2.2 hn
    exact ⟨ad, e, fun i x hx j v hv => (hb.cell (block_lt_of_cell (hc i x hx j v hv))).trans (hc i x hx j v hv)⟩⟩
theorem RdS.nil (w : World) : RdS k c w none 0 ([] : List α) := ⟨rfl, by omega, fun h => absurd h (by omega)⟩
theorem RdS.at_ (h : RdS k c w A n l) {i : Nat} (hi : i < n) : ∃ ad x, A = some ad ∧ l[i]? = some x ∧ ∀ j v, (c x)[j]? = some v → w.cell? ((ad.add (i * k)).add j) = some v := by
  obtain ⟨ad, e, hc⟩ := h.2.2 (by omega)
  have hl : i < l.length := by rw [h.1]; exact hi
  exact ⟨ad, l[i], e, List.getElem?_eq_getElem hl, hc i _ (List.getElem?_eq_getElem hl)⟩
theorem RdS.take (h : RdS k c w A n l) {m : Nat} (hm : m ≤ n) : RdS k c w A m (l.take m) :=
  ⟨by rw [List.length_take, h.1]; omega, by have := h.2.1; omega, fun hn => by
    obtain ⟨ad, e, hc⟩ := h.2.2 (by omega)
    exact ⟨ad, e, fun i x hx => hc i x (by
      rw [List.getElem?_take] at hx
      split at hx
      · exact hx
      · cases hx)⟩⟩
theorem flat_len (hk : ∀ x, (c x).length = k) : ∀ l : List α, (l.flatMap c).length = l.length * k
  | [] => by simp
  | x :: r => by rw [List.flatMap_cons, List.length_append, hk x, flat_len hk r, List.length_cons, Nat.add_mul]; omega
theorem flat_get (hk : ∀ x, (c x).length = k) : ∀ (l : List α) (i j : Nat) (x : α), l[i]? = some x → j < k → (l.flatMap c)[i * k + j]? = (c x)[j]?
  | [], i, j, x, h, _ => by simp at h
  | y :: r, 0, j, x, h, hj => by
    simp at h; subst h
    rw [List.flatMap_cons, Nat.zero_mul, Nat.zero_add, List.getElem?_append_left (by rw [hk]; exact hj)]
  | y :: r, i + 1, j, x, h, hj => by
    rw [List.flatMap_cons, List.getElem?_append_right (by rw [hk, Nat.add_mul]; omega), hk]
    have e : (i + 1) * k + j - k = i * k + j := by rw [Nat.add_mul]; omega
    rw [e]
    exact flat_get hk r i j x (by simpa using h) hj
/-- An owned row of them. -/
abbrev rowS (e : TypeId) (k : Nat) (c : α → List Value) (A : Option Addr) (cap : Nat) (l : List α) : Own := .row e k (.slice A l.length cap) l.length (l.flatMap c)
theorem rowS_read {e : TypeId} {cap : Nat} (hk : ∀ x, (c x).length = k) (h : (rowS e k c A cap l).ok w) : RdS k c w A l.length l := by
  have h' : w.ownsRow 0 e k (.slice A l.length cap) l.length (l.flatMap c) := h
  refine ⟨rfl, ?_, fun hn => ?_⟩
  · rcases h'.2 with ⟨_, e⟩ | ⟨g, cap, cur, e, _, hg, hcap, hmax, hcs, ht⟩
    · omega
    · simp only [maxLen] at hmax; omega
  · rcases h'.2 with ⟨_, e⟩ | ⟨g, cap, cur, e, _, hg, hcap, hmax, hcs, ht⟩
    · omega
    · injection e with e1 _ _
      refine ⟨⟨g, 0, none⟩, e1, fun i x hx j v hj => ?_⟩
      have hj5 : j < k := by
        by_cases h3 : j < k
        · exact h3
        · rw [List.getElem?_eq_none (by rw [hk]; omega)] at hj; cases hj
      rw [add_plain, add_at]
      have hq := h'.cells (g := g) (by rw [e1]; rfl) (i * k + j) v (by rw [flat_get hk l i j x hx hj5]; exact hj)
      rw [add_plain] at hq
      exact hq
theorem rowS_cap {e : TypeId} {cap : Nat} (h : (rowS e k c A cap l).ok w) : l.length ≤ cap ∧ cap ≤ 9223372036854775807 := by
  have h' : w.ownsRow 0 e k (.slice A l.length cap) l.length (l.flatMap c) := h
  rcases h'.2 with ⟨e1, e⟩ | ⟨g, cap2, cur, e, _, hg, hcap, hmax, hcs, ht⟩
  · injection e1 with _ _ e3
    omega
  · injection e with _ _ e3
    simp only [maxLen] at hmax
    omega
theorem flat_snoc (l : List α) (x : α) : l.flatMap c ++ c x = (l ++ [x]).flatMap c := by simp
end
section
variable {α : Type} {P : Program} {ops : Array Oper} {rest : List Oper} {o : Oper} {a : Act} {Q : Exit → Act → World → Prop} {w W : World} {ex : Nat → Prop} {L : List Own}
/-- append(s, x): x lies in a block of its own; s a row of structs that is owned. -/
theorem append_one (h : Ms w ex L W) (i j : Nat) (hgd : o.guard = none) (s x : Operand) (t e : TypeId) (k bytes : Nat) (c : α → List Value) (z : Value) (ho : o.op = .call { callee := .builtin .append, args := #[s, x], argTypes := #[t, t] })
    (hu : P.underlying t = some (.slice e)) (hinfo : (P.info? e).map (fun i => (i.zero, i.size, i.bytes)) = some (some z, k, bytes)) (hzs : z.cells.size = k) (hsz : 0 < k)
    (A : Option Addr) (cap : Nat) (l : List α) (y : α) (g : Nat) (u : TypeId) (cs : Array Value) (hs : a.eval s = .slice A l.length cap) (hrow : L[i]? = some (rowS e k c A cap l)) (hx : a.eval x = .slice (some ⟨g, 0, none⟩) 1 1)
    (hblk : L[j]? = some (.blk g u cs)) (hcs : cs.toList = c y) (hk : (c y).length = 1 * k) (h1 : (c y).all (·.oneCell') = true) (hlen : (l.length + 1) * bytes ≤ 140737488355328) (hmax : l.length + 1 ≤ maxLen)
    (hK : ∀ A' c' W', Ms w ex (L.set i (rowS e k c A' c' (l ++ [y]))) W' → wpList P ops Q rest (a.put o.dst (.slice A' (l ++ [y]).length c')) W') : wpList P ops Q (o :: rest) a W :=
  append_row h i j hgd s x t e k bytes z ho hu hinfo hzs hsz _ l.length 1 _ _ g u cs hs hrow hx hblk hcs hk h1 hlen hmax (l ++ [y]).length ((l ++ [y]).flatMap c) (by simp) (flat_snoc l y) hK
theorem Ms.nilS (h : Ms w ex L W) (e : TypeId) (k : Nat) (c : α → List Value) : Ms w ex (L ++ [rowS e k c none 0 []]) W := h.nilRowOf e k
end
end Go.Proofs.Ytflgnlpippjhcaa
