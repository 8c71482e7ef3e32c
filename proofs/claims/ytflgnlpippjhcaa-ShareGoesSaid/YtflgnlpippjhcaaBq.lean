/- Blocks apart (Bs) in regions that draw their order: loads by law, new blocks that float. -/
import Derived.Test.YtflgnlpippjhcaaBs
import Derived.Test.YtflgnlpippjhcaaQb
set_option linter.unusedVariables false
namespace Go.Proofs.Ytflgnlpippjhcaa
open Go.RowKit Go.Sort

theorem Bs.on {w W : World} {l : List Bk} (h : Bs w l W) (i : Nat) {g : Nat} {t : TypeId} {cs : Array Value} (hi : l[i]? = some ⟨g, t, cs⟩) : ∀ d os o, (grow (redrawn W d) os).cell? ⟨g, o, none⟩ = cs[o]? := cells_on (h.at_ i hi).cell (h.at_ i hi).lt
/-- A contract that turns nothing makes no memory. -/
theorem below_of {P : Program} {f : FuncId} {args : Array Value} {w : World} {v : Value} (h : Calls P f args w fun e w' => e = .returned v ∧ w = w') : Calls P f args w fun e w' => e = .returned v ∧ Below w.heap.size w w' :=
  h.mono fun _ _ ⟨a, b⟩ => ⟨a, b ▸ Below.refl _ _⟩
/-- One more block, apart from those that are there. -/
theorem Bs.more {w W : World} {l : List Bk} {g : Nat} {t : TypeId} {cs : Array Value} (h : Bs w l W) (hB : Blk W g t cs) (hg : w.heap.size ≤ g) (hne : ∀ (i : Nat) (b : Bk), l[i]? = some b → b.g ≠ g) : Bs w (l ++ [⟨g, t, cs⟩]) W := by
  have key : ∀ i b, (l ++ [⟨g, t, cs⟩])[i]? = some b → l[i]? = some b ∨ (i = l.length ∧ b = ⟨g, t, cs⟩) := fun i b hi => by
    rw [List.getElem?_append] at hi
    split at hi
    · exact .inl hi
    · rename_i hlt
      by_cases e : i = l.length
      · subst e; simp at hi; exact .inr ⟨rfl, hi.symm⟩
      · rw [List.getElem?_eq_none (by simp; omega)] at hi; cases hi
  refine ⟨fun i b hi => ?_, fun i b hi => ?_, fun i j b d hi hj hij => ?_, h.below⟩
  · rcases key i b hi with h1 | ⟨_, rfl⟩
    · exact h.blk i b h1
    · exact hB
  · rcases key i b hi with h1 | ⟨_, rfl⟩
    · exact h.lo i b h1
    · exact hg
  · rcases key i b hi with h1 | ⟨e1, rfl⟩
    · rcases key j d hj with h2 | ⟨e2, rfl⟩
      · exact h.apart i j b d h1 h2 hij
      · exact hne i b h1
    · rcases key j d hj with h2 | ⟨e2, rfl⟩
      · exact Ne.symm (hne j d h2)
      · omega
theorem Bs.old {w W : World} {l : List Bk} (h : Bs w l W) {i : Nat} {b : Bk} (hi : l[i]? = some b) : b.g < W.heap.size := (h.blk i b hi).lt
theorem Bs.laid1 {w W w1 : World} {l : List Bk} {g : Nat} {t : TypeId} {cs : Array Value} (h : Bs w l W) (hb : Below W.heap.size W w1) (hg : freshB W.heap.size (fun _ => none) g) (hA : okB (putB (fun _ => none) g (.cells cs t)) w1) : Bs w (l ++ [⟨g, t, cs⟩]) w1 :=
  h.new hb (hA g _ (by simp [putB])) hg.2
theorem Bs.laid2 {w W w1 : World} {l : List Bk} {g k : Nat} {t u : TypeId} {cs ds : Array Value} (h : Bs w l W) (hb : Below W.heap.size W w1) (hg : freshB W.heap.size (fun _ => none) g) (hk : freshB W.heap.size (putB (fun _ => none) g (.cells cs t)) k)
    (hA : okB (putB (putB (fun _ => none) g (.cells cs t)) k (.cells ds u)) w1) : Bs w (l ++ [⟨g, t, cs⟩, ⟨k, u, ds⟩]) w1 := by
  have hne : k ≠ g := (fresh_put.1 hk).1
  have h1 : Bs w (l ++ [⟨g, t, cs⟩]) w1 := h.new hb (hA g _ (by simp [putB, Ne.symm hne])) hg.2
  have := h1.more (g := k) (t := u) (cs := ds) (hA k _ (by simp [putB])) (Nat.le_trans h.below.size hk.2) (fun i b hi => by
    rw [List.getElem?_append] at hi
    split at hi
    · have := h.old hi; have := hk.2; omega
    · rename_i hlt
      by_cases e : i = l.length
      · subst e; simp at hi; subst hi; exact Ne.symm hne
      · rw [List.getElem?_eq_none (by simp; omega)] at hi; cases hi)
  simpa using this
theorem Bs.laid3 {w W w1 : World} {l : List Bk} {g k j : Nat} {t u v : TypeId} {cs ds es : Array Value} (h : Bs w l W) (hb : Below W.heap.size W w1) (hg : freshB W.heap.size (fun _ => none) g) (hk : freshB W.heap.size (putB (fun _ => none) g (.cells cs t)) k)
    (hj : freshB W.heap.size (putB (putB (fun _ => none) g (.cells cs t)) k (.cells ds u)) j) (hA : okB (putB (putB (putB (fun _ => none) g (.cells cs t)) k (.cells ds u)) j (.cells es v)) w1) : Bs w (l ++ [⟨g, t, cs⟩, ⟨k, u, ds⟩, ⟨j, v, es⟩]) w1 := by
  have hne : k ≠ g := (fresh_put.1 hk).1
  have hj1 := fresh_put.1 hj
  have hj2 := (fresh_put.1 hj1.2).1
  have h1 : Bs w (l ++ [⟨g, t, cs⟩]) w1 := h.new hb (hA g _ (by simp [putB, Ne.symm hne, Ne.symm hj2])) hg.2
  have key : ∀ (i : Nat) (b : Bk), (l ++ [⟨g, t, cs⟩])[i]? = some b → b.g < W.heap.size ∨ b.g = g := fun i b hi => by
    rw [List.getElem?_append] at hi
    split at hi
    · exact .inl (h.old hi)
    · rename_i hlt
      by_cases e : i = l.length
      · subst e; simp at hi; subst hi; exact .inr rfl
      · rw [List.getElem?_eq_none (by simp; omega)] at hi; cases hi
  have h2 := h1.more (g := k) (t := u) (cs := ds) (hA k _ (by simp [putB, Ne.symm hj1.1])) (Nat.le_trans h.below.size hk.2) (fun i b hi => by
    rcases key i b hi with h3 | h3
    · have := hk.2; omega
    · rw [h3]; exact Ne.symm hne)
  have h4 := h2.more (g := j) (t := v) (cs := es) (hA j _ (by simp [putB])) (Nat.le_trans h.below.size hj.2) (fun i b hi => by
    rw [List.getElem?_append] at hi
    split at hi
    · rcases key i b hi with h3 | h3
      · have := hj.2; omega
      · rw [h3]; exact Ne.symm hj2
    · rename_i hlt
      by_cases e : i = (l ++ [(⟨g, t, cs⟩ : Bk)]).length
      · subst e; simp at hi; subst hi; exact Ne.symm hj1.1
      · rw [List.getElem?_eq_none (by simp at hlt e ⊢; omega)] at hi; cases hi)
  simpa using h4

/-- A load of an aggregate in a region that draws its order and makes memory: by law. -/
theorem wpQuiet_load_b {P : Program} {ops : Array Oper} {W : World} {Q : Act → Prop} {rest : List Oper} {o : Oper} {a : Act} (hw : Region.wanted o (yielded ops a.tmps) = true) (ty : TypeId) (x : Operand) (ho : o.op = .load ty x)
    {g k : Nat} {t : TypeId} {cs : Array Value} (hB : Blk W g t cs) (n : Nat) (v : Value) (hx : a.eval x = .pointer (some ⟨g, k, none⟩)) (d : TypeDesc)
    (hu : P.underlying ty = some d) (hd : (match d with | .struct _ | .array _ _ => true | _ => false) = true) (hi : (P.info? ty).map (·.size) = some n) (hn : k + n ≤ cs.size) (hv : Value.agg ((cs.toList.drop k).take n).toArray = v)
    (h : wpQuiet P ops (laidOn W) Q rest (a.put o.dst v)) : wpQuiet P ops (laidOn W) Q (o :: rest) a :=
  wpQuiet_step fun K hK => by
    subst hv
    rw [if_pos hw]
    refine ⟨_, fun w hw => ?_, hK _ h⟩
    obtain ⟨p, rfl⟩ := hw
    have hB' : Blk (grow (redrawn W p.d) p.os) g t cs := hB.after (below_regrown _ _ _)
    unfold Oper.quietAt execOp
    simp only [ho, hx, Instr.loadAt, Instr.sureAddr, Sem.run_bind, Sem.run_pure, Result.andThen_ok, run_loadVar_at _ g k t ty cs n d hB' hn hu hd hi]
    exact ⟨rfl, rfl⟩
theorem wpG_load_b {P : Program} {ops : Array Oper} {W : World} {Q : Act → Prop} {rest : List Oper} {o : Oper} {a : Act} (hw : Region.wanted o (yielded ops a.tmps) = true) (ty : TypeId) (x : Operand) (ho : o.op = .load ty x)
    {g k : Nat} {t : TypeId} {cs : Array Value} (hB : Blk W g t cs) (n : Nat) (v : Value) (hx : a.eval x = .pointer (some ⟨g, k, none⟩)) (d : TypeDesc)
    (hu : P.underlying ty = some d) (hd : (match d with | .struct _ | .array _ _ => true | _ => false) = true) (hi : (P.info? ty).map (·.size) = some n) (hn : k + n ≤ cs.size) (hv : Value.agg ((cs.toList.drop k).take n).toArray = v)
    (h : wpG P ops W Q rest (a.put o.dst v)) : wpG P ops W Q (o :: rest) a :=
  wpG_step fun K hK => by
    subst hv
    rw [if_pos hw]
    refine ⟨_, fun p => ?_, hK _ h⟩
    have hB' : Blk (grow (redrawn W p.d) p.os) g t cs := hB.after (below_regrown _ _ _)
    unfold Oper.quietAt execOp
    simp only [ho, hx, Instr.loadAt, Instr.sureAddr, Sem.run_bind, Sem.run_pure, Result.andThen_ok, run_loadVar_at _ g k t ty cs n d hB' hn hu hd hi]
    exact ⟨rfl, rfl⟩
end Go.Proofs.Ytflgnlpippjhcaa
