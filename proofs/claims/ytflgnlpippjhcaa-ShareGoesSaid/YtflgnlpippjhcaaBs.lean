/- Blocks apart from each other, as one state; no table beside them. -/
import Derived.Test.YtflgnlpippjhcaaSt
import Derived.Great.Walk
set_option linter.unusedVariables false
namespace Go.Proofs.Ytflgnlpippjhcaa
open Go.RowKit

structure Bk where
  g : Nat
  t : TypeId
  cs : Array Value
structure Bs (w : World) (l : List Bk) (W : World) : Prop where
  blk : ∀ (i : Nat) (b : Bk), l[i]? = some b → Blk W b.g b.t b.cs
  lo : ∀ (i : Nat) (b : Bk), l[i]? = some b → w.heap.size ≤ b.g
  apart : ∀ (i j : Nat) (b d : Bk), l[i]? = some b → l[j]? = some d → i ≠ j → b.g ≠ d.g
  below : Below w.heap.size w W
theorem Bs.nil (w : World) : Bs w [] w := ⟨fun i b h => by simp at h, fun i b h => by simp at h, fun i j b d h => by simp at h, Below.refl _ _⟩
theorem Bs.after {w W W' : World} {l : List Bk} (h : Bs w l W) (hb : Below W.heap.size W W') : Bs w l W' :=
  ⟨fun i b hi => (h.blk i b hi).after hb, h.lo, h.apart, below_then h.below h.below.size hb⟩
theorem Bs.new {w W W' : World} {l : List Bk} {g : Nat} {t : TypeId} {cs : Array Value} (h : Bs w l W) (hb : Below W.heap.size W W') (hB : Blk W' g t cs) (hg : W.heap.size ≤ g) : Bs w (l ++ [⟨g, t, cs⟩]) W' := by
  have h' := h.after hb
  have key : ∀ i b, (l ++ [⟨g, t, cs⟩])[i]? = some b → l[i]? = some b ∨ (i = l.length ∧ b = ⟨g, t, cs⟩) := fun i b hi => by
    rw [List.getElem?_append] at hi
    split at hi
    · exact .inl hi
    · rename_i hlt
      by_cases e : i = l.length
      · subst e; simp at hi; exact .inr ⟨rfl, hi.symm⟩
      · rw [List.getElem?_eq_none (by simp; omega)] at hi; cases hi
  refine ⟨fun i b hi => ?_, fun i b hi => ?_, fun i j b d hi hj hij => ?_, h'.below⟩
  · rcases key i b hi with h1 | ⟨_, rfl⟩
    · exact h'.blk i b h1
    · exact hB
  · rcases key i b hi with h1 | ⟨_, rfl⟩
    · exact h.lo i b h1
    · exact Nat.le_trans h.below.size hg
  · rcases key i b hi with h1 | ⟨e1, rfl⟩
    · rcases key j d hj with h2 | ⟨e2, rfl⟩
      · exact h.apart i j b d h1 h2 hij
      · have := (h.blk i b h1).lt; simp only; omega
    · rcases key j d hj with h2 | ⟨e2, rfl⟩
      · have := (h.blk j d h2).lt; simp only; omega
      · omega
theorem Bs.alloc {w W : World} {l : List Bk} (h : Bs w l W) (t : TypeId) (cs : Array Value) : Bs w (l ++ [⟨W.heap.size, t, cs⟩]) (W.alloc (.cells cs t)) :=
  h.new ((Below.refl _ _).alloc (Nat.le_refl _) _) (Blk.new _ _ _) (Nat.le_refl _)
theorem Bs.alloc' {w W : World} {l : List Bk} (h : Bs w l W) (g : Nat) (t : TypeId) (cs : Array Value) (hg : g = W.heap.size) : Bs w (l ++ [⟨g, t, cs⟩]) (W.alloc (.cells cs t)) := by subst hg; exact h.alloc t cs
/-- Block i is written. -/
theorem Bs.put {w W W' : World} {l : List Bk} (h : Bs w l W) (i : Nat) {g : Nat} {t : TypeId} {old new : Array Value} (hi : l[i]? = some ⟨g, t, old⟩) (hB : Blk W' g t new) (hP : Put W W' g) : Bs w (l.set i ⟨g, t, new⟩) W' := by
  have hlo := h.lo i _ hi
  have hil : i < l.length := by
    rcases Nat.lt_or_ge i l.length with h1 | h1
    · exact h1
    · rw [List.getElem?_eq_none h1] at hi; cases hi
  have key : ∀ j b, (l.set i ⟨g, t, new⟩)[j]? = some b → (j = i ∧ b = ⟨g, t, new⟩) ∨ (j ≠ i ∧ l[j]? = some b) := fun j b hj => by
    by_cases e : j = i
    · subst e; rw [List.getElem?_set_self hil] at hj; exact .inl ⟨rfl, (Option.some.inj hj).symm⟩
    · rw [List.getElem?_set_ne (Ne.symm e)] at hj; exact .inr ⟨e, hj⟩
  refine ⟨fun j b hj => ?_, fun j b hj => ?_, fun j k b d hj hk hjk => ?_, below_put h.below hP hlo⟩
  · rcases key j b hj with ⟨_, rfl⟩ | ⟨hne, h1⟩
    · exact hB
    · exact (h.blk j b h1).put hP (h.apart j i b _ h1 hi hne)
  · rcases key j b hj with ⟨_, rfl⟩ | ⟨hne, h1⟩
    · exact hlo
    · exact h.lo j b h1
  · rcases key j b hj with ⟨e1, rfl⟩ | ⟨n1, h1⟩
    · rcases key k d hk with ⟨e2, rfl⟩ | ⟨n2, h2⟩
      · omega
      · have := h.apart i k _ d hi h2 (Ne.symm n2); exact this
    · rcases key k d hk with ⟨e2, rfl⟩ | ⟨n2, h2⟩
      · have := h.apart j i b _ h1 hi n1; exact this
      · exact h.apart j k b d h1 h2 hjk
theorem Bs.at_ {w W : World} {l : List Bk} (h : Bs w l W) (i : Nat) {g : Nat} {t : TypeId} {cs : Array Value} (hi : l[i]? = some ⟨g, t, cs⟩) : Blk W g t cs := h.blk i _ hi
theorem Bs.rules {w W : World} {l : List Bk} (h : Bs w l W) (i : Nat) {g : Nat} {t : TypeId} {cs : Array Value} (hi : l[i]? = some ⟨g, t, cs⟩) : (∀ o, W.cell? ⟨g, o, none⟩ = cs[o]?) ∧ (∀ o, W.frozen? ⟨g, o, none⟩ = false) ∧ g < W.heap.size := (h.at_ i hi).rules
/-- The last block is forgotten. -/
theorem Bs.cut {w W : World} {l k : List Bk} (h : Bs w (l ++ k) W) : Bs w l W :=
  have key : ∀ (i : Nat) b, l[i]? = some b → (l ++ k)[i]? = some b := fun i b hi => by
    rw [List.getElem?_append_left]
    · exact hi
    · rcases Nat.lt_or_ge i l.length with h1 | h1
      · exact h1
      · rw [List.getElem?_eq_none h1] at hi; cases hi
  ⟨fun i b hi => h.blk i b (key i b hi), fun i b hi => h.lo i b (key i b hi), fun i j b d hi hj => h.apart i j b d (key i b hi) (key j d hj), h.below⟩

theorem Bs.drewN {w W : World} {l : List Bk} (h : Bs w l W) (n : Nat) : Bs w l (W.drewN n) := h.after (below_drewN (Below.refl _ _) n)
/-- One cell of block i is written. -/
theorem put_setCell (W : World) (g k : Nat) (v : Value) : Put W (W.setCell ⟨g, k, none⟩ v) g := ⟨rfl, rfl, rfl, by simp [World.setCell], fun j hj => Below.heap_setCell W ⟨g, k, none⟩ v j hj⟩
theorem Bs.set {w W : World} {l : List Bk} (h : Bs w l W) (i k : Nat) (v : Value) {g : Nat} {t : TypeId} {old new : Array Value} (hi : l[i]? = some ⟨g, t, old⟩) (hn : old.setIfInBounds k v = new) : Bs w (l.set i ⟨g, t, new⟩) (W.setCell ⟨g, k, none⟩ v) :=
  h.put i hi (hn ▸ (h.at_ i hi).set_ k v) (put_setCell W g k v)
/-- An allocation, the world behind kept abstract. -/
theorem wpList_alloc_b {P : Program} {ops : Array Oper} {rest : List Oper} {o : Oper} {a : Act} {W : World} {Q : Exit → Act → World → Prop} (hg : o.guard = none) (dst : Option Tmp) (hdst : o.dst = dst) (ty : TypeId) (cs : Array Value)
    (hrun : (execOp a.eval o).run P W = .ok (.value (.pointer (some ⟨W.heap.size, 0, none⟩))) (W.alloc (.cells cs ty)))
    (h : ∀ g W', Below W.heap.size W W' → Blk W' g ty cs → W.heap.size ≤ g → wpList P ops Q rest (a.put dst (.pointer (some ⟨g, 0, none⟩))) W') : wpList P ops Q (o :: rest) a W :=
  Go.Great.wpList_allocTo hg dst hdst _ _ hrun (h _ _ ((Below.refl _ _).alloc (Nat.le_refl _) _) (Blk.new _ _ _) (Nat.le_refl _))
end Go.Proofs.Ytflgnlpippjhcaa
