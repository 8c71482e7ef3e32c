/- What a walk owns: blocks, rows of slices, and whatever else stands in blocks of its own, all apart from each other, as one state. -/
import Derived.Test.YtflgnlpippjhcaaBq
import Derived.Test.YtflgnlpippjhcaaRd
import Derived.Deep.AppendLies
set_option linter.unusedVariables false
namespace Go.Proofs.Ytflgnlpippjhcaa
open Go.RowKit Go.Sort

/-- Something that stands in blocks of its own. -/
structure Own where
  bl : Nat → Prop
  ok : World → Prop
  lt : ∀ W, ok W → ∀ k, bl k → k < W.heap.size
  keep : ∀ W W', (∀ k, bl k → W'.heap[k]? = W.heap[k]?) → ok W → ok W'
/-- What was there is there but for some blocks. -/
structure Turn (ex : Nat → Prop) (w w' : World) : Prop where
  os : w'.os = w.os
  tape : w'.tape = w.tape
  output : w'.output = w.output
  size : w.heap.size ≤ w'.heap.size
  block : ∀ k, k < w.heap.size → ¬ ex k → w'.heap[k]? = w.heap[k]?
theorem Turn.of_below {ex : Nat → Prop} {w w' : World} (h : Below w.heap.size w w') : Turn ex w w' := ⟨h.os, h.tape, h.output, h.size, fun k hk _ => h.block k hk⟩
theorem Turn.of_put {ex : Nat → Prop} {w w' : World} {g : Nat} (h : Put w w' g) (hg : ex g) : Turn ex w w' := ⟨h.os, h.tape, h.output, by rw [h.size]; exact Nat.le_refl _, fun k hk hx => h.block k (fun e => hx (e ▸ hg))⟩
theorem Turn.of_grown {ex : Nat → Prop} {w w' : World} {r : Option Nat} (h : w.grownBy w' r) (hg : ∀ k, r = some k → ex k) : Turn ex w w' := ⟨h.os, h.tape, h.output, h.size, fun k hk hx => h.block k hk (fun e => hx (hg k e.symm))⟩
theorem Turn.refl (ex : Nat → Prop) (w : World) : Turn ex w w := ⟨rfl, rfl, rfl, Nat.le_refl _, fun _ _ _ => rfl⟩
abbrev noB : Nat → Prop := fun _ => False
theorem Turn.below {w w' : World} (h : Turn noB w w') : Below w.heap.size w w' := ⟨h.os, h.tape, h.output, h.size, fun k hk => h.block k hk (fun h => h)⟩

structure Ms (w : World) (ex : Nat → Prop) (l : List Own) (W : World) : Prop where
  ok : ∀ (i : Nat) (o : Own), l[i]? = some o → o.ok W
  lo : ∀ (i : Nat) (o : Own), l[i]? = some o → ∀ k, o.bl k → w.heap.size ≤ k ∨ ex k
  apart : ∀ (i j : Nat) (a b : Own), l[i]? = some a → l[j]? = some b → i ≠ j → ∀ k, a.bl k → ¬ b.bl k
  turn : Turn ex w W

section
variable {w W W' : World} {ex : Nat → Prop} {l : List Own}
theorem Ms.nil (w : World) (ex : Nat → Prop) : Ms w ex [] w := ⟨fun i o h => by simp at h, fun i o h => by simp at h, fun i j a b h => by simp at h, Turn.refl _ _⟩
theorem Ms.start {o : Own} (h : o.ok w) : Ms w o.bl [o] w := by
  have key : ∀ (i : Nat) (b : Own), [o][i]? = some b → i = 0 ∧ b = o := fun i b hi => by
    cases i with
    | zero => simp at hi; exact ⟨rfl, hi.symm⟩
    | succ i => simp at hi
  refine ⟨fun i b hi => ?_, fun i b hi k hk => ?_, fun i j a b hi hj hij => ?_, Turn.refl _ _⟩
  · rw [(key i b hi).2]; exact h
  · rw [(key i b hi).2] at hk; exact .inr hk
  · rw [(key i a hi).1, (key j b hj).1] at hij; exact absurd rfl hij
theorem Ms.start2 {a b : Own} (ha : a.ok w) (hb : b.ok w) (hab : ∀ k, a.bl k → ¬ b.bl k) : Ms w (fun k => a.bl k ∨ b.bl k) [a, b] w := by
  have key : ∀ (i : Nat) (c : Own), [a, b][i]? = some c → (i = 0 ∧ c = a) ∨ (i = 1 ∧ c = b) := fun i c hi => by
    match i, hi with
    | 0, hi => simp at hi; exact .inl ⟨rfl, hi.symm⟩
    | 1, hi => simp at hi; exact .inr ⟨rfl, hi.symm⟩
    | i + 2, hi => simp at hi
  refine ⟨fun i c hi => ?_, fun i c hi k hk => ?_, fun i j c d hi hj hij k hk => ?_, Turn.refl _ _⟩
  · rcases key i c hi with ⟨_, rfl⟩ | ⟨_, rfl⟩
    · exact ha
    · exact hb
  · rcases key i c hi with ⟨_, rfl⟩ | ⟨_, rfl⟩
    · exact .inr (.inl hk)
    · exact .inr (.inr hk)
  · rcases key i c hi with ⟨e1, rfl⟩ | ⟨e1, rfl⟩ <;> rcases key j d hj with ⟨e2, rfl⟩ | ⟨e2, rfl⟩
    · omega
    · exact hab k hk
    · exact fun h => hab k h hk
    · omega
theorem Ms.lt {i : Nat} {o : Own} (h : Ms w ex l W) (hi : l[i]? = some o) {k : Nat} (hk : o.bl k) : k < W.heap.size := o.lt W (h.ok i o hi) k hk
theorem Ms.after (h : Ms w ex l W) (hb : Below W.heap.size W W') : Ms w ex l W' :=
  ⟨fun i o hi => o.keep W W' (fun k hk => hb.block k (h.lt hi hk)) (h.ok i o hi), h.lo, h.apart,
   ⟨hb.os.trans h.turn.os, hb.tape.trans h.turn.tape, hb.output.trans h.turn.output, Nat.le_trans h.turn.size hb.size, fun k hk hx => (hb.block k (Nat.lt_of_lt_of_le hk h.turn.size)).trans (h.turn.block k hk hx)⟩⟩
theorem snoc_key {o : Own} {i : Nat} {b : Own} (hi : (l ++ [o])[i]? = some b) : l[i]? = some b ∨ (i = l.length ∧ b = o) := by
  rw [List.getElem?_append] at hi
  split at hi
  · exact .inl hi
  · rename_i hlt
    by_cases e : i = l.length
    · subst e; simp at hi; exact .inr ⟨rfl, hi.symm⟩
    · rw [List.getElem?_eq_none (by simp; omega)] at hi; cases hi
/-- One more, apart from those that are there. -/
theorem Ms.more {o : Own} (h : Ms w ex l W) (ho : o.ok W) (hlo : ∀ k, o.bl k → w.heap.size ≤ k ∨ ex k) (hne : ∀ (i : Nat) (b : Own), l[i]? = some b → ∀ k, b.bl k → ¬ o.bl k) : Ms w ex (l ++ [o]) W := by
  refine ⟨fun i b hi => ?_, fun i b hi k hk => ?_, fun i j a b hi hj hij k hk => ?_, h.turn⟩
  · rcases snoc_key hi with h1 | ⟨_, rfl⟩
    · exact h.ok i b h1
    · exact ho
  · rcases snoc_key hi with h1 | ⟨_, rfl⟩
    · exact h.lo i b h1 k hk
    · exact hlo k hk
  · rcases snoc_key hi with h1 | ⟨e1, rfl⟩ <;> rcases snoc_key hj with h2 | ⟨e2, rfl⟩
    · exact h.apart i j a b h1 h2 hij k hk
    · exact hne i a h1 k hk
    · exact fun hb => hne j b h2 k hb hk
    · omega
theorem Ms.add {o : Own} (h : Ms w ex l W) (hb : Below W.heap.size W W') (ho : o.ok W') (hlo : ∀ k, o.bl k → W.heap.size ≤ k) : Ms w ex (l ++ [o]) W' :=
  (h.after hb).more ho (fun k hk => .inl (Nat.le_trans h.turn.size (hlo k hk))) (fun i b hi k hk hk' => by have := h.lt hi hk; have := hlo k hk'; omega)
theorem Ms.set_len {i : Nat} {o : Own} (hi : l[i]? = some o) : i < l.length := by
  rcases Nat.lt_or_ge i l.length with h1 | h1
  · exact h1
  · rw [List.getElem?_eq_none h1] at hi; cases hi
theorem set_key {i j : Nat} {o o' b : Own} (hi : l[i]? = some o) (hj : (l.set i o')[j]? = some b) : (j = i ∧ b = o') ∨ (j ≠ i ∧ l[j]? = some b) := by
  by_cases e : j = i
  · subst e; rw [List.getElem?_set_self (Ms.set_len hi)] at hj; exact .inl ⟨rfl, (Option.some.inj hj).symm⟩
  · rw [List.getElem?_set_ne (Ne.symm e)] at hj; exact .inr ⟨e, hj⟩
/-- One of them has turned into another, in its own blocks or in new ones. -/
theorem Ms.mut (h : Ms w ex l W) (i : Nat) {o o' : Own} (hi : l[i]? = some o) (ht : Turn o.bl W W') (ho : o'.ok W') (hn : ∀ k, o'.bl k → o.bl k ∨ W.heap.size ≤ k) : Ms w ex (l.set i o') W' := by
  have far : ∀ (j : Nat) (b : Own), j ≠ i → l[j]? = some b → ∀ k, b.bl k → ¬ o'.bl k := fun j b hj hb k hk hk' => by
    rcases hn k hk' with h1 | h1
    · exact h.apart j i b o hb hi hj k hk h1
    · have := h.lt hb hk; omega
  refine ⟨fun j b hj => ?_, fun j b hj k hk => ?_, fun j m a b hj hm hjm k hk => ?_, ?_⟩
  · rcases set_key hi hj with ⟨_, rfl⟩ | ⟨hne, h1⟩
    · exact ho
    · exact b.keep W W' (fun k hk => ht.block k (h.lt h1 hk) (fun h2 => h.apart j i b o h1 hi hne k hk h2)) (h.ok j b h1)
  · rcases set_key hi hj with ⟨_, rfl⟩ | ⟨hne, h1⟩
    · rcases hn k hk with h2 | h2
      · exact h.lo i o hi k h2
      · exact .inl (Nat.le_trans h.turn.size h2)
    · exact h.lo j b h1 k hk
  · rcases set_key hi hj with ⟨e1, rfl⟩ | ⟨n1, h1⟩ <;> rcases set_key hi hm with ⟨e2, rfl⟩ | ⟨n2, h2⟩
    · omega
    · exact fun hb => far m b n2 h2 k hb hk
    · exact far j a n1 h1 k hk
    · exact h.apart j m a b h1 h2 hjm k hk
  · refine ⟨ht.os.trans h.turn.os, ht.tape.trans h.turn.tape, ht.output.trans h.turn.output, Nat.le_trans h.turn.size ht.size, fun k hk hx => ?_⟩
    refine (ht.block k (Nat.lt_of_lt_of_le hk h.turn.size) (fun h2 => ?_)).trans (h.turn.block k hk hx)
    rcases h.lo i o hi k h2 with h3 | h3
    · omega
    · exact hx h3
/-- A callee has turned the i-th. -/
theorem Ms.call (h : Ms w ex l W) (i : Nat) {o o' : Own} (hi : l[i]? = some o) (hc : Ms W o.bl [o'] W') : Ms w ex (l.set i o') W' :=
  h.mut i hi hc.turn (hc.ok 0 o' rfl) (fun k hk => (hc.lo 0 o' rfl k hk).symm)
/-- Two are seen as one. -/
theorem Ms.join {a b o : Own} (h : Ms w ex [a, b] W) (hok : a.ok W → b.ok W → o.ok W) (hbl : ∀ k, o.bl k → a.bl k ∨ b.bl k) : Ms w ex [o] W := by
  have key : ∀ (i : Nat) (c : Own), [o][i]? = some c → i = 0 ∧ c = o := fun i b hi => by
    cases i with
    | zero => simp at hi; exact ⟨rfl, hi.symm⟩
    | succ i => simp at hi
  refine ⟨fun i c hi => ?_, fun i c hi k hk => ?_, fun i j c d hi hj hij => ?_, h.turn⟩
  · rw [(key i c hi).2]; exact hok (h.ok 0 a rfl) (h.ok 1 b rfl)
  · rw [(key i c hi).2] at hk
    rcases hbl k hk with h1 | h1
    · exact h.lo 0 a rfl k h1
    · exact h.lo 1 b rfl k h1
  · rw [(key i c hi).1, (key j d hj).1] at hij; exact absurd rfl hij
theorem Ms.exc {ex' : Nat → Prop} (h : Ms w ex l W) (hx : ∀ k, ex k → ex' k) : Ms w ex' l W :=
  ⟨h.ok, fun i o hi k hk => (h.lo i o hi k hk).imp id (hx k), h.apart, ⟨h.turn.os, h.turn.tape, h.turn.output, h.turn.size, fun k hk hn => h.turn.block k hk (fun h1 => hn (hx k h1))⟩⟩
/-- The last ones are forgotten. -/
theorem Ms.cut {k : List Own} (h : Ms w ex (l ++ k) W) : Ms w ex l W :=
  have key : ∀ (i : Nat) b, l[i]? = some b → (l ++ k)[i]? = some b := fun i b hi => by
    rw [List.getElem?_append_left]
    · exact hi
    · exact Ms.set_len hi
  ⟨fun i b hi => h.ok i b (key i b hi), fun i b hi => h.lo i b (key i b hi), fun i j b d hi hj => h.apart i j b d (key i b hi) (key j d hj), h.turn⟩
/-- Some of them, in another order. -/
theorem Ms.pick (h : Ms w ex l W) (f : Nat → Nat) (m : List Own) (hf : ∀ (i : Nat) (o : Own), m[i]? = some o → l[f i]? = some o) (hinj : ∀ i j, i < m.length → j < m.length → f i = f j → i = j) : Ms w ex m W :=
  ⟨fun i o hi => h.ok (f i) o (hf i o hi), fun i o hi => h.lo (f i) o (hf i o hi), fun i j a b hi hj hij => h.apart (f i) (f j) a b (hf i a hi) (hf j b hj) (fun e => hij (hinj i j (Ms.set_len hi) (Ms.set_len hj) e)), h.turn⟩
theorem Ms.below (h : Ms w noB l W) : Below w.heap.size w W := h.turn.below
theorem Ms.drewN (h : Ms w ex l W) (n : Nat) : Ms w ex l (W.drewN n) := h.after (below_drewN (Below.refl _ _) n)
end

/-! ### a block; a row -/
def Own.blk (g : Nat) (t : TypeId) (cs : Array Value) : Own where
  bl k := k = g
  ok W := Blk W g t cs
  lt W h k hk := by subst hk; exact h.lt
  keep W W' hk h := (hk g rfl).trans h
def Own.row (e : TypeId) (size : Nat) (v : Value) (n : Nat) (xs : List Value) : Own where
  bl k := v.ownBlock = some k
  ok W := W.ownsRow 0 e size v n xs
  lt W h k hk := (h.lt k hk).2
  keep W W' hk h := by
    refine ⟨h.1, ?_⟩
    rcases h.2 with h1 | ⟨g, cap, cur, hv, hb, hg, r⟩
    · exact .inl h1
    · exact .inr ⟨g, cap, cur, hv, hb, (hk g (by rw [hv]; rfl)).trans hg, r⟩
section
variable {w W W' : World} {ex : Nat → Prop} {l : List Own}
theorem Ms.new {g : Nat} {t : TypeId} {cs : Array Value} (h : Ms w ex l W) (hb : Below W.heap.size W W') (hB : Blk W' g t cs) (hg : W.heap.size ≤ g) : Ms w ex (l ++ [.blk g t cs]) W' :=
  h.add hb hB (fun k hk => by have : k = g := hk; omega)
theorem Ms.at_ (h : Ms w ex l W) (i : Nat) {g : Nat} {t : TypeId} {cs : Array Value} (hi : l[i]? = some (.blk g t cs)) : Blk W g t cs := h.ok i _ hi
theorem Ms.own (h : Ms w ex l W) (i : Nat) {e : TypeId} {size n : Nat} {v : Value} {xs : List Value} (hi : l[i]? = some (.row e size v n xs)) : W.ownsRow 0 e size v n xs := h.ok i _ hi
theorem Ms.rules (h : Ms w ex l W) (i : Nat) {g : Nat} {t : TypeId} {cs : Array Value} (hi : l[i]? = some (.blk g t cs)) : (∀ o, W.cell? ⟨g, o, none⟩ = cs[o]?) ∧ (∀ o, W.frozen? ⟨g, o, none⟩ = false) ∧ g < W.heap.size := (h.at_ i hi).rules
theorem Ms.on (h : Ms w ex l W) (i : Nat) {g : Nat} {t : TypeId} {cs : Array Value} (hi : l[i]? = some (.blk g t cs)) : ∀ d os o, (grow (redrawn W d) os).cell? ⟨g, o, none⟩ = cs[o]? := cells_on (h.at_ i hi).cell (h.at_ i hi).lt
theorem Ms.put (h : Ms w ex l W) (i : Nat) {g : Nat} {t : TypeId} {old new : Array Value} (hi : l[i]? = some (.blk g t old)) (hB : Blk W' g t new) (hP : Put W W' g) : Ms w ex (l.set i (.blk g t new)) W' :=
  h.mut i hi (Turn.of_put hP rfl) hB (fun k hk => .inl hk)
/-- A row has grown. -/
theorem Ms.grown (h : Ms w ex l W) (i : Nat) {e : TypeId} {size n n' : Nat} {v v' : Value} {xs xs' : List Value} (hi : l[i]? = some (.row e size v n xs)) (hO : W'.ownsRow 0 e size v' n' xs') (hG : W.grownBy W' v.ownBlock)
    (hat : v'.ownBlock = v.ownBlock ∨ v'.ownBlock = some W.heap.size ∨ v'.ownBlock = none) : Ms w ex (l.set i (.row e size v' n' xs')) W' :=
  h.mut i hi (Turn.of_grown hG (fun k hk => hk)) hO (fun k hk => by
    have hk' : v'.ownBlock = some k := hk
    rcases hat with h1 | h1 | h1
    · exact .inl (show v.ownBlock = some k by rw [← h1]; exact hk')
    · rw [h1] at hk'; exact .inr (Nat.le_of_eq (Option.some.inj hk'))
    · rw [h1] at hk'; cases hk')
theorem Ms.laid1 {g : Nat} {t : TypeId} {cs : Array Value} {w1 : World} (h : Ms w ex l W) (hb : Below W.heap.size W w1) (hg : freshB W.heap.size (fun _ => none) g) (hA : okB (putB (fun _ => none) g (.cells cs t)) w1) : Ms w ex (l ++ [.blk g t cs]) w1 :=
  h.new hb (hA g _ (by simp [putB])) hg.2
theorem Ms.laid2 {g k : Nat} {t u : TypeId} {cs ds : Array Value} {w1 : World} (h : Ms w ex l W) (hb : Below W.heap.size W w1) (hg : freshB W.heap.size (fun _ => none) g) (hk : freshB W.heap.size (putB (fun _ => none) g (.cells cs t)) k)
    (hA : okB (putB (putB (fun _ => none) g (.cells cs t)) k (.cells ds u)) w1) : Ms w ex (l ++ [.blk g t cs, .blk k u ds]) w1 := by
  have hne : k ≠ g := (fresh_put.1 hk).1
  have h1 : Ms w ex (l ++ [.blk g t cs]) w1 := h.new hb (hA g _ (by simp [putB, Ne.symm hne])) hg.2
  have := h1.more (o := .blk k u ds) (hA k _ (by simp [putB])) (fun j hj => by have : j = k := hj; subst this; exact .inl (Nat.le_trans h.turn.size hk.2)) (fun i b hi j hj hj' => by
    have e : j = k := hj'
    subst e
    rcases snoc_key hi with h2 | ⟨_, rfl⟩
    · have := h.lt h2 hj; have := hk.2; omega
    · exact hne hj)
  simpa using this
end
/-- A slice literal, the world behind kept abstract. -/
theorem wpList_build_b {P : Program} {ops : Array Oper} {rest : List Oper} {o : Oper} {a : Act} {W : World} {Q : Exit → Act → World → Prop} (hg : o.guard = none) (dst : Option Tmp) (hdst : o.dst = dst) (ty : TypeId) (n : Nat) (cs : Array Value)
    (hrun : (execOp a.eval o).run P W = .ok (.value (.slice (some ⟨W.heap.size, 0, none⟩) n n)) (W.alloc (.cells cs ty)))
    (h : ∀ g W', Below W.heap.size W W' → Blk W' g ty cs → W.heap.size ≤ g → wpList P ops Q rest (a.put dst (.slice (some ⟨g, 0, none⟩) n n)) W') : wpList P ops Q (o :: rest) a W :=
  Go.Great.wpList_allocTo hg dst hdst _ _ hrun (h _ _ ((Below.refl _ _).alloc (Nat.le_refl _) _) (Blk.new _ _ _) (Nat.le_refl _))
end Go.Proofs.Ytflgnlpippjhcaa
