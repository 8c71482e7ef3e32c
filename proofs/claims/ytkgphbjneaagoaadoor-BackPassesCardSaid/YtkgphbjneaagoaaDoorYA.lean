/- Stores and loads of whole aggregates by law, the world behind kept abstract. | Blocks apart from each other, as one state; no table beside them. | A region that draws its order, whose callees leave what was there as it was: one walk in the order of the text, also where stores and allocations end the region in one forced order. | A region that draws its order: its callees leave what was there as it was; it lays new blocks (which may come up at any time); stores end it in one forced order. One walk. | Blocks apart (Bs) in regions that draw their order: loads by law, new blocks that float. -/
import Derived.Test.YtkgphbjneaagoaaDoorBk
import Derived.Laws.Tables
import Derived.Great.Walk
import Derived.Lib.QuietBelow
import Derived.StillTail
import Derived.KernelRfl
set_option linter.unusedVariables false
namespace Go.Proofs.YtkgphbjneaagoaaDoor
open Go.RowKit

/-- Block g alone was written. -/
structure Put (w w' : World) (g : Nat) : Prop where
  os : w'.os = w.os
  tape : w'.tape = w.tape
  output : w'.output = w.output
  size : w'.heap.size = w.heap.size
  block : ∀ k, k ≠ g → w'.heap[k]? = w.heap[k]?
theorem Put.below {w w' : World} {g B : Nat} (h : Put w w' g) (hB : B ≤ g) : Below B w w' := ⟨h.os, h.tape, h.output, by rw [h.size]; exact Nat.le_refl _, fun k hk => h.block k (by omega)⟩
theorem Put.row {w : World} {g : Nat} (cs : Array Value) : Put w (w.setRow g cs) g := ⟨rfl, rfl, rfl, by simp, fun k hk => setRow_other w g k cs hk⟩
theorem Blk.put {w w' : World} {g k : Nat} {t : TypeId} {cs : Array Value} (h : Blk w k t cs) (hp : Put w w' g) (hk : k ≠ g) : Blk w' k t cs := (hp.block k hk).trans h
theorem below_put {B : Nat} {w0 w w' : World} {g : Nat} (h : Below B w0 w) (hp : Put w w' g) (hg : B ≤ g) : Below B w0 w' := h.trans (hp.below hg)

/-- Cells with others laid over them from k on. -/
def spl (cs : Array Value) (k : Nat) (vs : List Value) : Array Value := (cs.toList.take k ++ vs ++ cs.toList.drop (k + vs.length)).toArray

theorem setRow_same (w : World) (g : Nat) (t : TypeId) (cs : Array Value) (hg : w.heap[g]? = some (.cells cs t (0, 0))) : w.setRow g cs = w := by
  have hv : w.heap[g]? = some (.cells cs t (0, 0)) := hg
  obtain ⟨hlt, hv⟩ := Array.getElem?_eq_some_iff.1 hg
  unfold World.setRow
  cases w with
  | mk heap tape drawn os output =>
    congr 1
    apply Array.ext
    · simp
    · intro k h1 h2
      simp only [Array.getElem_modify]
      split
      · rename_i hk; subst hk; simp at hv; simp [hv]
      · rfl
theorem set_spl {cs : List Value} {k : Nat} (hk : k < cs.length) (v : Value) (vs : List Value) : (cs.set k v).take (k + 1) ++ vs ++ (cs.set k v).drop (k + 1 + vs.length) = cs.take k ++ (v :: vs) ++ cs.drop (k + (v :: vs).length) := by
  have h1 : (cs.set k v).take (k + 1) = cs.take k ++ [v] := by
    rw [List.take_succ_eq_append_getElem (by simpa using hk)]
    simp [List.take_set_of_le]
  have h2 : (cs.set k v).drop (k + 1 + vs.length) = cs.drop (k + (v :: vs).length) := by
    rw [List.drop_set_of_lt (by omega)]
    congr 1
    simp; omega
  rw [h1, h2]; simp
theorem run_storeCells_at {P : Program} (g : Nat) (t : TypeId) (b : Nat) : ∀ (vs : List Value) (i : Nat) (cur : Array Value) (w : World), w.heap[g]? = some (.cells cur t (0, 0)) → b + i + vs.length ≤ cur.size → (∀ v ∈ vs, v.oneCell' = true) →
    (storeCells ⟨g, b, none⟩ vs i).run P w = .ok () (w.setRow g (spl cur (b + i) vs))
  | [], i, cur, w, hg, hl, _ => by
    have e : spl cur (b + i) [] = cur := by unfold spl; simp
    rw [e, setRow_same w g t cur hg]
    rfl
  | v :: rest, i, cur, w, hg, hl, h1 => by
    have hi : b + i < cur.size := by simp at hl; omega
    have hadd : (⟨g, b, none⟩ : Addr).add i = ⟨g, b + i, none⟩ := by unfold Addr.add; split <;> simp_all
    have hcell : w.cell? ⟨g, b + i, none⟩ = some cur[b + i] := by simp [World.cell?, hg, hi]
    have hfro : w.frozen? ⟨g, b + i, none⟩ = false := by simp [World.frozen?, hg]
    have hst : (store ((⟨g, b, none⟩ : Addr).add i) v).run P w = .ok () (w.setRow g (cur.setIfInBounds (b + i) v)) := by
      rw [hadd, run_store P w _ v _ (h1 v (by simp)), hcell]
      simp [hfro, setCell_eq_setRow w g (b + i) cur t (0, 0) v hg]
    have ih := run_storeCells_at (P := P) g t b rest (i + 1) (cur.setIfInBounds (b + i) v) (w.setRow g (cur.setIfInBounds (b + i) v)) (setRow_heap w g cur _ t _ hg) (by simp at hl ⊢; omega) (fun x hx => h1 x (by simp [hx]))
    simp only [storeCells, Sem.run_bind, hst, Result.andThen_ok, ih, setRow_setRow]
    congr 2
    unfold spl
    rw [show b + (i + 1) = b + i + 1 by omega]
    congr 1
    have := set_spl (cs := cur.toList) (k := b + i) (by simpa using hi) v rest
    simpa using this
theorem run_storeVar_at {P : Program} (w : World) (g k : Nat) (t ty : TypeId) (old : Array Value) (v : Value) (hg : w.heap[g]? = some (.cells old t (0, 0))) (hi : (P.info? ty).map (·.size) = some v.cells.size)
    (ho : k + v.cells.size ≤ old.size) (h1 : v.cells.all (·.oneCell') = true) :
    (storeVar ty ⟨g, k, none⟩ v).run P w = .ok () (w.setRow g (spl old k v.cells.toList)) := by
  have := run_storeCells_at (P := P) g t k v.cells.toList 0 old w hg (by simp; omega) (fun v hv => (Array.all_eq_true_iff_forall_mem.1 h1) v (by simpa using hv))
  cases hq : P.info? ty with
  | none => simp [hq] at hi
  | some i =>
    have hs : v.cells.size = i.size := by simp [hq] at hi; omega
    simp only [Nat.add_zero] at this
    simp [storeVar, sizeOf, typeInfo, hq, hs, this]

/-- A store into a block: its cells are spliced; the world behind is any that differs there alone. -/
theorem wpList_store_at {P : Program} {ops : Array Oper} {rest : List Oper} {o : Oper} {a : Act} {w : World} {Q : Exit → Act → World → Prop} (hgd : o.guard = none) (ty : TypeId) (x y : Operand) (ho : o.op = .store ty x y)
    {g k : Nat} {t : TypeId} {old : Array Value} (hB : Blk w g t old) (v : Value) (hx : a.eval x = .pointer (some ⟨g, k, none⟩)) (hy : a.eval y = v) (hi : (P.info? ty).map (·.size) = some v.cells.size)
    (hk : k + v.cells.size ≤ old.size) (h1 : v.cells.all (·.oneCell') = true)
    (h : ∀ w', Blk w' g t (spl old k v.cells.toList) → Put w w' g → wpList P ops Q rest (a.put o.dst undef) w') : wpList P ops Q (o :: rest) a w :=
  wpList_plain hgd fun _ hK => by
    subst hy
    unfold Oper.wp execOp
    simp only [ho, hx, Instr.storeAt, Instr.sureAddr, Sem.run_bind, Sem.run_pure, Result.andThen_ok, run_storeVar_at w g k t ty old _ hB hi hk h1]
    exact hK _ _ (h _ (setRow_heap w g old _ t _ hB) (Put.row _))
/-- A load of an aggregate out of the midst of a block. -/
theorem run_loadVar_at {P : Program} (w : World) (g k : Nat) (t ty : TypeId) (cs : Array Value) (n : Nat) (d : TypeDesc) (hg : w.heap[g]? = some (.cells cs t (0, 0))) (hn : k + n ≤ cs.size)
    (hu : P.underlying ty = some d) (hd : (match d with | .struct _ | .array _ _ => true | _ => false) = true) (hi : (P.info? ty).map (·.size) = some n) :
    (loadVar ty ⟨g, k, none⟩).run P w = .ok (.agg ((cs.toList.drop k).take n).toArray) w := by
  have hlen : ((cs.toList.drop k).take n).length = n := by simp; omega
  have hl : (loadCells ⟨g, k, none⟩ ((cs.toList.drop k).take n).length).run P w = .ok ((cs.toList.drop k).take n).toArray w :=
    run_loadCells_list (P := P) w ⟨g, k, none⟩ ((cs.toList.drop k).take n) (fun j v hv => by
      have hadd : (⟨g, k, none⟩ : Addr).add j = ⟨g, k + j, none⟩ := by unfold Addr.add; split <;> simp_all
      rw [hadd, cell_of_row w g (k + j) cs t (0, 0) hg]
      rw [List.getElem?_take] at hv
      split at hv
      · simpa using hv
      · cases hv)
  cases hq : P.info? ty with
  | none => simp [hq] at hi
  | some i =>
    have hs : i.size = n := by simpa [hq] using hi
    have hagg : (isAgg ty).run P w = .ok true w := by
      unfold isAgg
      rw [Sem.run_bind, run_underlying hu w]
      cases d <;> simp_all
    rw [hlen] at hl
    simp [loadVar, Sem.run_bind, hagg, sizeOf, typeInfo, hq, hs, hl]
theorem wpList_load_at {P : Program} {ops : Array Oper} {rest : List Oper} {o : Oper} {a : Act} {w : World} {Q : Exit → Act → World → Prop} (hgd : o.guard = none) (ty : TypeId) (x : Operand) (ho : o.op = .load ty x)
    {g k : Nat} {t : TypeId} {cs : Array Value} (hB : Blk w g t cs) (n : Nat) (v : Value) (hx : a.eval x = .pointer (some ⟨g, k, none⟩)) (d : TypeDesc)
    (hu : P.underlying ty = some d) (hd : (match d with | .struct _ | .array _ _ => true | _ => false) = true) (hi : (P.info? ty).map (·.size) = some n) (hn : k + n ≤ cs.size) (hv : Value.agg ((cs.toList.drop k).take n).toArray = v)
    (h : wpList P ops Q rest (a.put o.dst v) w) : wpList P ops Q (o :: rest) a w :=
  wpList_plain hgd fun _ hK => by
    subst hv
    unfold Oper.wp execOp
    simp only [ho, hx, Instr.loadAt, Instr.sureAddr, Sem.run_bind, Sem.run_pure, Result.andThen_ok, run_loadVar_at w g k t ty cs n d hB hn hu hd hi]
    exact hK _ _ h
/-- The same of an operation that stands under a guard that holds. -/
theorem wpList_wanted {P : Program} {ops : Array Oper} {rest : List Oper} {o : Oper} {a : Act} {w : World} {Q : Exit → Act → World → Prop} (hw : Region.wanted o (yielded ops a.tmps) = true)
    (h : ∀ K : Act → World → Prop, (∀ a w, wpList P ops Q rest a w → K a w) → o.wp P a w K Q) : wpList P ops Q (o :: rest) a w :=
  wpList_step fun K hK => by rw [if_pos hw]; exact h K hK
theorem wpList_load_g {P : Program} {ops : Array Oper} {rest : List Oper} {o : Oper} {a : Act} {w : World} {Q : Exit → Act → World → Prop} (hw : Region.wanted o (yielded ops a.tmps) = true) (ty : TypeId) (x : Operand) (ho : o.op = .load ty x)
    {g k : Nat} {t : TypeId} {cs : Array Value} (hB : Blk w g t cs) (n : Nat) (v : Value) (hx : a.eval x = .pointer (some ⟨g, k, none⟩)) (d : TypeDesc)
    (hu : P.underlying ty = some d) (hd : (match d with | .struct _ | .array _ _ => true | _ => false) = true) (hi : (P.info? ty).map (·.size) = some n) (hn : k + n ≤ cs.size) (hv : Value.agg ((cs.toList.drop k).take n).toArray = v)
    (h : wpList P ops Q rest (a.put o.dst v) w) : wpList P ops Q (o :: rest) a w :=
  wpList_wanted hw fun _ hK => by
    subst hv
    unfold Oper.wp execOp
    simp only [ho, hx, Instr.loadAt, Instr.sureAddr, Sem.run_bind, Sem.run_pure, Result.andThen_ok, run_loadVar_at w g k t ty cs n d hB hn hu hd hi]
    exact hK _ _ h
end Go.Proofs.YtkgphbjneaagoaaDoor

set_option linter.unusedVariables false
namespace Go.Proofs.YtkgphbjneaagoaaDoor
open Go.RowKit

structure Bk where
  g : Nat
  t : TypeId
  cs : Array Value
structure Bs (w : World) (l : List Bk) (W : World) : Prop where
  blk : ∀ (i : Nat) (b : Bk), l[i]? = some b → Blk W b.g b.t b.cs
  lo : ∀ (i : Nat) (b : Bk), l[i]? = some b → w.heap.size ≤ b.g
  apart : ∀ (i j : Nat) (b d : Bk), l[i]? = some b → l[j]? = some d → i ≠ j → b.g ≠ d.g
  below : Below w.heap.size w W
theorem Bs.nil (w : World) : Bs w [] w := ⟨fun i b h => by simp at h, fun i b h => by simp at h, fun i j b d h => by simp at h, Below.refl _ _⟩
theorem Bs.after {w W W' : World} {l : List Bk} (h : Bs w l W) (hb : Below W.heap.size W W') : Bs w l W' :=
  ⟨fun i b hi => (h.blk i b hi).after hb, h.lo, h.apart, below_then h.below h.below.size hb⟩
theorem Bs.new {w W W' : World} {l : List Bk} {g : Nat} {t : TypeId} {cs : Array Value} (h : Bs w l W) (hb : Below W.heap.size W W') (hB : Blk W' g t cs) (hg : W.heap.size ≤ g) : Bs w (l ++ [⟨g, t, cs⟩]) W' := by
  have h' := h.after hb
  have key : ∀ i b, (l ++ [⟨g, t, cs⟩])[i]? = some b → l[i]? = some b ∨ (i = l.length ∧ b = ⟨g, t, cs⟩) := fun i b hi => by
    rw [List.getElem?_append] at hi
    split at hi
    · exact .inl hi
    · rename_i hlt
      by_cases e : i = l.length
      · subst e; simp at hi; exact .inr ⟨rfl, hi.symm⟩
      · rw [List.getElem?_eq_none (by simp; omega)] at hi; cases hi
  refine ⟨fun i b hi => ?_, fun i b hi => ?_, fun i j b d hi hj hij => ?_, h'.below⟩
  · rcases key i b hi with h1 | ⟨_, rfl⟩
    · exact h'.blk i b h1
    · exact hB
  · rcases key i b hi with h1 | ⟨_, rfl⟩
    · exact h.lo i b h1
    · exact Nat.le_trans h.below.size hg
  · rcases key i b hi with h1 | ⟨e1, rfl⟩
    · rcases key j d hj with h2 | ⟨e2, rfl⟩
      · exact h.apart i j b d h1 h2 hij
      · have := (h.blk i b h1).lt; simp only; omega
    · rcases key j d hj with h2 | ⟨e2, rfl⟩
      · have := (h.blk j d h2).lt; simp only; omega
      · omega
theorem Bs.alloc {w W : World} {l : List Bk} (h : Bs w l W) (t : TypeId) (cs : Array Value) : Bs w (l ++ [⟨W.heap.size, t, cs⟩]) (W.alloc (.cells cs t)) :=
  h.new ((Below.refl _ _).alloc (Nat.le_refl _) _) (Blk.new _ _ _) (Nat.le_refl _)
theorem Bs.alloc' {w W : World} {l : List Bk} (h : Bs w l W) (g : Nat) (t : TypeId) (cs : Array Value) (hg : g = W.heap.size) : Bs w (l ++ [⟨g, t, cs⟩]) (W.alloc (.cells cs t)) := by subst hg; exact h.alloc t cs
/-- Block i is written. -/
theorem Bs.put {w W W' : World} {l : List Bk} (h : Bs w l W) (i : Nat) {g : Nat} {t : TypeId} {old new : Array Value} (hi : l[i]? = some ⟨g, t, old⟩) (hB : Blk W' g t new) (hP : Put W W' g) : Bs w (l.set i ⟨g, t, new⟩) W' := by
  have hlo := h.lo i _ hi
  have hil : i < l.length := by
    rcases Nat.lt_or_ge i l.length with h1 | h1
    · exact h1
    · rw [List.getElem?_eq_none h1] at hi; cases hi
  have key : ∀ j b, (l.set i ⟨g, t, new⟩)[j]? = some b → (j = i ∧ b = ⟨g, t, new⟩) ∨ (j ≠ i ∧ l[j]? = some b) := fun j b hj => by
    by_cases e : j = i
    · subst e; rw [List.getElem?_set_self hil] at hj; exact .inl ⟨rfl, (Option.some.inj hj).symm⟩
    · rw [List.getElem?_set_ne (Ne.symm e)] at hj; exact .inr ⟨e, hj⟩
  refine ⟨fun j b hj => ?_, fun j b hj => ?_, fun j k b d hj hk hjk => ?_, below_put h.below hP hlo⟩
  · rcases key j b hj with ⟨_, rfl⟩ | ⟨hne, h1⟩
    · exact hB
    · exact (h.blk j b h1).put hP (h.apart j i b _ h1 hi hne)
  · rcases key j b hj with ⟨_, rfl⟩ | ⟨hne, h1⟩
    · exact hlo
    · exact h.lo j b h1
  · rcases key j b hj with ⟨e1, rfl⟩ | ⟨n1, h1⟩
    · rcases key k d hk with ⟨e2, rfl⟩ | ⟨n2, h2⟩
      · omega
      · have := h.apart i k _ d hi h2 (Ne.symm n2); exact this
    · rcases key k d hk with ⟨e2, rfl⟩ | ⟨n2, h2⟩
      · have := h.apart j i b _ h1 hi n1; exact this
      · exact h.apart j k b d h1 h2 hjk
theorem Bs.at_ {w W : World} {l : List Bk} (h : Bs w l W) (i : Nat) {g : Nat} {t : TypeId} {cs : Array Value} (hi : l[i]? = some ⟨g, t, cs⟩) : Blk W g t cs := h.blk i _ hi
theorem Bs.rules {w W : World} {l : List Bk} (h : Bs w l W) (i : Nat) {g : Nat} {t : TypeId} {cs : Array Value} (hi : l[i]? = some ⟨g, t, cs⟩) : (∀ o, W.cell? ⟨g, o, none⟩ = cs[o]?) ∧ (∀ o, W.frozen? ⟨g, o, none⟩ = false) ∧ g < W.heap.size := (h.at_ i hi).rules
/-- The last block is forgotten. -/
theorem Bs.cut {w W : World} {l k : List Bk} (h : Bs w (l ++ k) W) : Bs w l W :=
  have key : ∀ (i : Nat) b, l[i]? = some b → (l ++ k)[i]? = some b := fun i b hi => by
    rw [List.getElem?_append_left]
    · exact hi
    · rcases Nat.lt_or_ge i l.length with h1 | h1
      · exact h1
      · rw [List.getElem?_eq_none h1] at hi; cases hi
  ⟨fun i b hi => h.blk i b (key i b hi), fun i b hi => h.lo i b (key i b hi), fun i j b d hi hj => h.apart i j b d (key i b hi) (key j d hj), h.below⟩

theorem Bs.drewN {w W : World} {l : List Bk} (h : Bs w l W) (n : Nat) : Bs w l (W.drewN n) := h.after (below_drewN (Below.refl _ _) n)
/-- One cell of block i is written. -/
theorem put_setCell (W : World) (g k : Nat) (v : Value) : Put W (W.setCell ⟨g, k, none⟩ v) g := ⟨rfl, rfl, rfl, by simp [World.setCell], fun j hj => Below.heap_setCell W ⟨g, k, none⟩ v j hj⟩
theorem Bs.set {w W : World} {l : List Bk} (h : Bs w l W) (i k : Nat) (v : Value) {g : Nat} {t : TypeId} {old new : Array Value} (hi : l[i]? = some ⟨g, t, old⟩) (hn : old.setIfInBounds k v = new) : Bs w (l.set i ⟨g, t, new⟩) (W.setCell ⟨g, k, none⟩ v) :=
  h.put i hi (hn ▸ (h.at_ i hi).set_ k v) (put_setCell W g k v)
/-- An allocation, the world behind kept abstract. -/
theorem wpList_alloc_b {P : Program} {ops : Array Oper} {rest : List Oper} {o : Oper} {a : Act} {W : World} {Q : Exit → Act → World → Prop} (hg : o.guard = none) (dst : Option Tmp) (hdst : o.dst = dst) (ty : TypeId) (cs : Array Value)
    (hrun : (execOp a.eval o).run P W = .ok (.value (.pointer (some ⟨W.heap.size, 0, none⟩))) (W.alloc (.cells cs ty)))
    (h : ∀ g W', Below W.heap.size W W' → Blk W' g ty cs → W.heap.size ≤ g → wpList P ops Q rest (a.put dst (.pointer (some ⟨g, 0, none⟩))) W') : wpList P ops Q (o :: rest) a W :=
  Go.Great.wpList_allocTo hg dst hdst _ _ hrun (h _ _ ((Below.refl _ _).alloc (Nat.le_refl _) _) (Blk.new _ _ _) (Nat.le_refl _))
end Go.Proofs.YtkgphbjneaagoaaDoor

set_option linter.unusedVariables false
namespace Go.Proofs.YtkgphbjneaagoaaDoor
open Go.RowKit Go.Sort

section
variable {P : Program} {ops : Array Oper} {md : Region.Mode} {C : World → Prop}
/-- The head of a region (operations below n) in whatever order; L stands behind it. -/
def headQ (P : Program) (md : Region.Mode) (ops : Array Oper) (C : World → Prop) (n : Nat) (L : Array Bool → Act → Prop) : Nat → Array Bool → Act → Prop
  | 0, done, a => L done a
  | k + 1, done, a => Region.ready md ops done ≠ [] ∧ ∀ i ∈ Region.ready md ops done, i < n ∧ qOp P ops C i (headQ P md ops C n L k (done.setIfInBounds i true)) a

theorem any_of_headQ {n g : Nat} {L : Array Bool → Act → Prop} {R : Exit → Act → World → Prop} (hL : ∀ done a W, C W → L done a → wpAny P md ops R g done a W) :
    ∀ (k : Nat) (done : Array Bool) (a : Act) (W : World), C W → headQ P md ops C n L k done a → wpAny P md ops R (k + g) done a W
  | 0, done, a, W, hW, h => by rw [Nat.zero_add]; exact hL _ _ _ hW h
  | k + 1, done, a, W, hW, h => by
    rw [Nat.add_right_comm]
    exact ⟨fun h0 => absurd h0 h.1, fun i hi => wpOp_of_qOp hW (fun a' W' hW' h' => any_of_headQ hL k _ a' W' hW' h') (h.2 i hi).2⟩

/-- An operation of the head that may come up now may come up first. -/
theorem headQ_first {n i : Nat} {oi : Oper} {v : Value} {L : Array Bool → Act → Prop} (hi : ops[i]? = some oi) (hsel : ∀ (j : Nat) (o : Oper) cs b, ops[j]? = some o → o.op ≠ .select cs b)
    (hs : Region.sinkB md ops n = true) (hc : Region.chainB md ops n = true) (hn : n < ops.size) (hin : i < n) (hdone : ∀ done a, L done a → ∀ j ∈ Region.ready md ops done, n ≤ j) :
    ∀ (k : Nat) (done : Array Bool) (a : Act), HeadInv md ops n done →
      (∀ j oj, ops[j]? = some oj → j ≠ i → done.getD j true = false → (∀ e ∈ oj.after, Region.binds md e = true → e.on ≠ i) → oi.apart ops oj = true) →
      i ∈ Region.ready md ops done → YieldsIn P ops C oi v a → headQ P md ops C n L k (done.setIfInBounds i true) (a.put oi.dst v) → headQ P md ops C n L (k + 1) done a := by
  intro k
  induction k with
  | zero =>
    intro done a inv _ hr hy H
    have hun := (mem_ready.1 hr).1
    refine ⟨fun h => (by rw [h] at hr; cases hr), fun j hj => ?_⟩
    have hjn : j < n := Nat.lt_of_not_le fun h => tail_waits hs hc hn inv _ i rfl hin hun j h hj
    refine ⟨hjn, ?_⟩
    by_cases e : j = i
    · subst e; exact hy.qOp hi H
    · exact absurd (hdone _ _ H j (ready_mono hj e)) (Nat.not_le.2 hjn)
  | succ k ih =>
    intro done a inv hfree hr hy H
    have hun := (mem_ready.1 hr).1
    refine ⟨fun h => (by rw [h] at hr; cases hr), fun j hj => ?_⟩
    have hjn : j < n := Nat.lt_of_not_le fun h => tail_waits hs hc hn inv _ i rfl hin hun j h hj
    refine ⟨hjn, ?_⟩
    by_cases e : j = i
    · subst e; exact hy.qOp hi H
    · obtain ⟨hjun, oj, hoj, hall⟩ := mem_ready.1 hj
      have hnot : ∀ x ∈ oj.after, Region.binds md x = true → x.on ≠ i := fun x hx hb heq => by
        have h1 := hall x hx hb
        rw [heq, getD_both hun] at h1
        cases h1
      have h2 := qOp_put hoj (hfree j oj hoj e hjun hnot) (fun cs b => hsel i oi cs b hi) (fun cs b => hsel j oj cs b hoj) hy (H.2 j (ready_mono hj e)).2
      refine qOp_mono (fun a' h3 => ih (done.setIfInBounds j true) a' (inv.set hj hjn) (fun m om hm hmi hmun hno => hfree m om hm hmi ?_ hno) (ready_mono hr (Ne.symm e)) h3.1 ?_) h2
      · by_cases hjm : j = m
        · subst hjm; exact hjun
        · rw [getD_set_ne true hjm] at hmun; exact hmun
      · rw [Array.setIfInBounds_comm _ _ e]
        exact h3.2

theorem headQ_lex {n g : Nat} {K : Act → Prop} (hsel : Region.noSelect ops = true) (hs : Region.sinkB md ops n = true) (hc : Region.chainB md ops n = true) (hn : n < ops.size) :
    ∀ (l : List Oper) (k : Nat) (done : Array Bool) (a : Act), (∀ j, j < l.length → l[j]? = ops[k + j]?) → k + l.length = n → HeadInv md ops n done → Region.lexHead md ops g l.length k done = true →
    wpQuiet P ops C K l a → headQ P md ops C n (fun done' a' => Region.seqB md ops g n done' = true ∧ K a') l.length done a
  | [], k, done, a, _, hk, _, hB, h => by
    obtain rfl : k = n := by simpa using hk
    exact ⟨by simpa [Region.lexHead] using hB, h⟩
  | o :: l, k, done, a, hl, hk, inv, hB, h => by
    have h0 : ops[k]? = some o := by simpa using (hl 0 (by simp)).symm
    simp only [List.length_cons, Region.lexHead, Bool.and_eq_true] at hB
    obtain ⟨⟨hr, hf⟩, hB'⟩ := hB
    have hkn : k < n := by simp only [List.length_cons] at hk; omega
    have hr' : k ∈ Region.ready md ops done := by simpa using hr
    have hst : qOp P ops C k (wpQuiet P ops C K l) a := by unfold qOp; simp only [h0]; exact h
    obtain ⟨v, hy, hK⟩ := yieldsIn_of_qOp h0 hst
    exact headQ_first h0 (Region.noSelect_spec hsel) hs hc hn hkn (fun d' a' hL => seqB_ready hL.1) l.length done a inv (Region.free_spec h0 hf) hr' hy
      (headQ_lex hsel hs hc hn l (k + 1) _ _ (fun j hj => by have := hl (j + 1) (by simp; omega); simpa [Nat.add_assoc, Nat.add_comm 1 j] using this) (by simp only [List.length_cons] at hk; omega) (inv.set hr' hkn) hB' hK)

theorem wpQuiet_imp {K K' : Act → Prop} (hK : ∀ a, K a → K' a) : ∀ (l : List Oper) (a : Act), wpQuiet P ops C K l a → wpQuiet P ops C K' l a
  | [], a, h => hK a h
  | o :: l, a, h => by
    unfold wpQuiet at h ⊢
    split at h
    · rename_i hw; rw [if_pos hw]; exact Oper.quiet_mono (fun a' h' => wpQuiet_imp hK l a' h') h
    · rename_i hw; rw [if_neg hw]; exact wpQuiet_imp hK l _ h

theorem region_quiet_tail {id : Nat} {Q : Exit → Act → World → Prop} {a : Act} {w : World} {l : List Oper} (n : Nat) (hm : P.follows .mixedOrders = true) (hB : Region.lexTailB .any l.toArray n = true) (hC : C { w with drawn := w.drawn + 1 })
    (h : wpQuiet P l.toArray C (fun a' => ∀ w', C w' → wpList P l.toArray Q (l.drop n) a' w') (l.take n) a) : (Code.region id l.toArray true).wp P Q a w := by
  simp only [Region.lexTailB, Bool.and_eq_true, decide_eq_true_eq] at hB
  obtain ⟨⟨⟨⟨hsel, hn⟩, hs⟩, hc⟩, hlex⟩ := hB
  have hnl : n < l.length := by simpa using hn
  have htl : (l.take n).length = n := by simp; omega
  have hdl : (l.drop n).length = l.toArray.size - n := by simp
  have inv0 : HeadInv .any l.toArray n (Array.replicate l.toArray.size false) :=
    ⟨by simp, fun j oj _ hl => (by rw [getD_replicate_false] at hl; cases hl), fun t _ ht => getD_in (by simpa using ht) (getD_replicate_false _ _)⟩
  have H := headQ_lex (md := .any) (g := l.toArray.size - n) hsel hs hc hn (l.take n) 0 _ a (fun j hj => by
    have hj' : j < n := by rw [htl] at hj; exact hj
    simp [hj']) (by simpa using htl) inv0 (by rw [htl]; exact hlex) h
  refine wp_region_any hm ?_
  have := any_of_headQ (R := Q) (g := l.toArray.size - n) (fun done a' W hW hL => by
    have h2 := hL.2 W hW
    have h3 := wpAny_of_seq (md := .any) (l.drop n) n done a' W (fun j => by simp) (by rw [hdl]; exact hL.1) h2
    rwa [hdl] at h3) _ _ a _ hC H
  rwa [htl, show n + (l.toArray.size - n) = l.toArray.size by omega] at this
end

/-- The class: what was there is there. -/
abbrev laidOn (W : World) : World → Prop := fun w' => ∃ p : Regrown, w' = grow (redrawn W p.d) p.os
theorem laidOn_drew (W : World) : laidOn W { W with drawn := W.drawn + 1 } := ⟨⟨W.drawn + 1, #[]⟩, by rw [grow_empty]; rfl⟩

/-- S: what the region needs of the world; it forgets the rest. -/
theorem region_b {P : Program} {id : Nat} {Q : Exit → Act → World → Prop} {a : Act} {w : World} {l : List Oper} (S : World → Prop) (hm : P.follows .mixedOrders = true) (hB : Region.lexB .any l.toArray = true) (hS : S w)
    (h : ∀ W, S W → wpQuiet P l.toArray (laidOn W) (fun a' => ∀ w', Below W.heap.size W w' → Q .normal a' w') l a) : (Code.region id l.toArray true).wp P Q a w :=
  wp_region_quiet (C := laidOn w) hm hB (laidOn_drew w) (wpQuiet_imp (K := fun a' => ∀ w', Below w.heap.size w w' → Q .normal a' w') (fun a' h1 w' ⟨p, hp⟩ => h1 w' (hp ▸ below_regrown w p.d p.os)) _ _ (h w hS))
theorem region_bt {P : Program} {id : Nat} {Q : Exit → Act → World → Prop} {a : Act} {w : World} {l : List Oper} (n : Nat) (S : World → Prop) (hm : P.follows .mixedOrders = true) (hB : Region.lexTailB .any l.toArray n = true) (hS : S w)
    (h : ∀ W, S W → wpQuiet P l.toArray (laidOn W) (fun a' => ∀ w', Below W.heap.size W w' → wpList P l.toArray Q (l.drop n) a' w') (l.take n) a) : (Code.region id l.toArray true).wp P Q a w :=
  region_quiet_tail (C := laidOn w) n hm hB (laidOn_drew w) (wpQuiet_imp (fun a' h1 w' ⟨p, hp⟩ => h1 w' (hp ▸ below_regrown w p.d p.os)) _ _ (h w hS))

/-- What a region's rules say of a block. -/
theorem cells_on {W : World} {g : Nat} {F : Nat → Option Value} (h : ∀ o, W.cell? ⟨g, o, none⟩ = F o) (hg : g < W.heap.size) : ∀ d os o, (grow (redrawn W d) os).cell? ⟨g, o, none⟩ = F o := fun d os o =>
  ((below_regrown W d os).cell (p := ⟨g, o, none⟩) hg).trans (h o)
end Go.Proofs.YtkgphbjneaagoaaDoor

set_option linter.unusedVariables false
namespace Go.Proofs.YtkgphbjneaagoaaDoor
open Go.RowKit Go.Sort

/-- What was laid: block by block. -/
abbrev LaidB := Nat → Option Obj
def putB (A : LaidB) (g : Nat) (o : Obj) : LaidB := fun x => if x = g then some o else A x
def okB (A : LaidB) (w : World) : Prop := ∀ g o, A g = some o → w.heap[g]? = some o
def freshB (B : Nat) (A : LaidB) (g : Nat) : Prop := A g = none ∧ B ≤ g
def finB (B : Nat) (A : LaidB) : Prop := ∃ N, ∀ g, N ≤ g → freshB B A g
theorem putB_comm {A : LaidB} {g g' : Nat} (h : g ≠ g') (o o' : Obj) : putB (putB A g o) g' o' = putB (putB A g' o') g o := funext fun x => by
  unfold putB
  by_cases h1 : x = g' <;> by_cases h2 : x = g <;> simp_all
theorem fin_put {B : Nat} {A : LaidB} (h : finB B A) (g : Nat) (o : Obj) : finB B (putB A g o) := by
  obtain ⟨N, hN⟩ := h
  refine ⟨N + g + 1, fun x hx => ⟨?_, (hN x (by omega)).2⟩⟩
  unfold putB
  rw [if_neg (by omega)]
  exact (hN x (by omega)).1
theorem fresh_put {B : Nat} {A : LaidB} {g g' : Nat} {o : Obj} : freshB B (putB A g o) g' ↔ g' ≠ g ∧ freshB B A g' := by
  unfold freshB putB
  by_cases h : g' = g
  · simp [h]
  · simp [h]
theorem ok_below {A : LaidB} {w w' : World} (h : okB A w) (hb : Below w.heap.size w w') : okB A w' := fun g o hg => by
  have := h g o hg
  exact (hb.block g (Array.getElem?_eq_some_iff.1 this).1).trans this
theorem ok_put {A : LaidB} {w : World} (h : okB A w) (o : Obj) : okB (putB A w.heap.size o) (w.alloc o) := fun g x hg => by
  unfold putB at hg
  split at hg
  · rename_i e; subst e; rw [← Option.some.inj hg]; exact heap_alloc_new w o
  · exact ok_below h ((Below.refl _ _).alloc (Nat.le_refl _) _) g x hg

section
variable {P : Program} {ops : Array Oper} {md : Region.Mode} {W : World} {m : Nat} {ob : Nat → Obj}
def givW (P : Program) (W : World) (o : Oper) (a : Act) (v : Value) : Prop :=
  ∀ p : Regrown, o.quietAt P a (fun w'' => Below (grow (redrawn W p.d) p.os).heap.size (grow (redrawn W p.d) p.os) w'') (grow (redrawn W p.d) p.os) v
def YQ (P : Program) (ops : Array Oper) (W : World) (o : Oper) (v : Value) (a : Act) : Prop :=
  (Region.wanted o (yielded ops a.tmps) = true ∧ givW P W o a v) ∨ (Region.wanted o (yielded ops a.tmps) = false ∧ v = undef)
abbrev ptrB (g : Nat) : Value := .pointer (some ⟨g, 0, none⟩)
def fOp (P : Program) (ops : Array Oper) (W : World) (m : Nat) (ob : Nat → Obj) (i : Nat) (K : LaidB → Act → Prop) (A : LaidB) (a : Act) : Prop :=
  match ops[i]? with
  | none => K A a
  | some o => if m ≤ i then ∀ g, freshB W.heap.size A g → K (putB A g (ob i)) (a.put o.dst (ptrB g)) else ∃ v, YQ P ops W o v a ∧ K A (a.put o.dst v)
/-- The operations from m to below n lay blocks. -/
def Lays (P : Program) (ops : Array Oper) (m n : Nat) (ob : Nat → Obj) : Prop :=
  ∀ i, m ≤ i → i < n → ∀ o, ops[i]? = some o → ∀ (a : Act) (w : World), Region.wanted o (yielded ops a.tmps) = true ∧ (execOp a.eval o).run P w = .ok (.value (ptrB w.heap.size)) (w.alloc (ob i))

theorem fOp_mono {i : Nat} {A : LaidB} {a : Act} {K K' : LaidB → Act → Prop} (hf : finB W.heap.size A) (h : ∀ A a, finB W.heap.size A → K A a → K' A a) (hh : fOp P ops W m ob i K A a) : fOp P ops W m ob i K' A a := by
  unfold fOp at *
  split
  · rename_i e; rw [e] at hh; exact h _ _ hf hh
  · rename_i o e
    rw [e] at hh
    dsimp only at hh ⊢
    split
    · rename_i hm; rw [if_pos hm] at hh; exact fun g hg => h _ _ (fin_put hf _ _) (hh g hg)
    · rename_i hm; rw [if_neg hm] at hh
      obtain ⟨v, h1, h2⟩ := hh
      exact ⟨v, h1, h _ _ hf h2⟩

theorem quietAt_imp {o : Oper} {a : Act} {C C' : World → Prop} {w : World} {v : Value} (h : ∀ w', C w' → C' w') (hh : o.quietAt P a C w v) : o.quietAt P a C' w v := by
  unfold Oper.quietAt at *
  generalize (execOp a.eval o).run P w = r at *
  cases r with
  | ok n w' =>
    cases n <;> simp only [Oper.quietUpon] at hh ⊢ <;> try exact hh
    case enter f args => exact ⟨hh.1, hh.2.mono fun e w'' ⟨h1, h2⟩ => ⟨h1, h _ h2⟩⟩
  | halt x w' => exact hh

theorem wpOp_of_fOp {n i : Nat} {A : LaidB} {a : Act} {K : LaidB → Act → Prop} {K' : Act → World → Prop} {R : Exit → Act → World → Prop} {w : World} (hL : Lays P ops m n ob) (hi : i < n) (hw : Below W.heap.size W w) (hA : okB A w)
    (h : ∀ A a w', Below W.heap.size W w' → okB A w' → K A a → K' a w') (hh : fOp P ops W m ob i K A a) : wpOp P ops R i K' a w := by
  unfold fOp at hh
  unfold wpOp
  split
  · rename_i ho; simp only [ho] at hh; exact h _ _ _ hw hA hh
  · rename_i o ho
    simp only [ho] at hh
    by_cases hm : m ≤ i
    · rw [if_pos hm] at hh
      obtain ⟨h1, h2⟩ := hL i hm hi o ho a w
      rw [if_pos h1]
      refine .inl ?_
      unfold Oper.wp
      rw [h2]
      simp only [Oper.upon]
      refine h _ _ _ (hw.alloc hw.size _) (ok_put hA _) (hh _ ⟨?_, hw.size⟩)
      cases e : A w.heap.size with
      | none => rfl
      | some x => have := hA _ _ e; simp at this
    · rw [if_neg hm] at hh
      obtain ⟨v, hy, hK⟩ := hh
      rcases hy with ⟨h1, h2⟩ | ⟨h1, rfl⟩
      · rw [if_pos h1]
        refine .inl ?_
        obtain ⟨p, hp⟩ := regrown_of_below hw
        have h3 := h2 p
        rw [← hp] at h3
        refine Oper.wp_of_quiet (C := fun w' => w' = w ∨ Below w.heap.size w w') (.inl rfl) (K := fun a' => K A a') (fun a' w' hw' hK' => ?_) ⟨v, fun w1 hw1 => ?_, hK⟩
        · rcases hw' with rfl | hb
          · exact h _ _ _ hw hA hK'
          · exact h _ _ _ (hw.trans (hb.mono hw.size)) (ok_below hA hb) hK'
        · have hb1 : Below w.heap.size w w1 := by
            rcases hw1 with rfl | hb
            · exact Below.refl _ _
            · exact hb
          obtain ⟨p1, hp1⟩ := regrown_of_below (hw.trans (hb1.mono hw.size))
          have h4 := h2 p1
          rw [← hp1] at h4
          exact quietAt_imp (fun w' h5 => .inr (hb1.trans (h5.mono hb1.size))) h4
      · rw [if_neg (by rw [h1]; simp)]
        exact h _ _ _ hw hA hK

/-- The head of a region (operations below n) in whatever order; L stands behind it. -/
def headF (P : Program) (md : Region.Mode) (ops : Array Oper) (W : World) (m : Nat) (ob : Nat → Obj) (n : Nat) (L : Array Bool → LaidB → Act → Prop) : Nat → Array Bool → LaidB → Act → Prop
  | 0, done, A, a => L done A a
  | k + 1, done, A, a => Region.ready md ops done ≠ [] ∧ ∀ i ∈ Region.ready md ops done, i < n ∧ fOp P ops W m ob i (headF P md ops W m ob n L k (done.setIfInBounds i true)) A a

theorem any_of_headF {n g : Nat} {L : Array Bool → LaidB → Act → Prop} {R : Exit → Act → World → Prop} (hLay : Lays P ops m n ob)
    (hL : ∀ done A a w, Below W.heap.size W w → okB A w → L done A a → wpAny P md ops R g done a w) :
    ∀ (k : Nat) (done : Array Bool) (A : LaidB) (a : Act) (w : World), Below W.heap.size W w → okB A w → headF P md ops W m ob n L k done A a → wpAny P md ops R (k + g) done a w
  | 0, done, A, a, w, hw, hA, h => by rw [Nat.zero_add]; exact hL _ _ _ _ hw hA h
  | k + 1, done, A, a, w, hw, hA, h => by
    rw [Nat.add_right_comm]
    exact ⟨fun h0 => absurd h0 h.1, fun i hi => wpOp_of_fOp hLay (h.2 i hi).1 hw hA (fun A' a' w' hw' hA' h' => any_of_headF hLay hL k _ A' a' w' hw' hA' h') (h.2 i hi).2⟩

theorem YQ.of_same {o : Oper} {v : Value} {a a' : Act} (hy : YQ P ops W o v a) (he : execOp a'.eval o = execOp a.eval o) (hw : Region.wanted o (yielded ops a'.tmps) = Region.wanted o (yielded ops a.tmps)) : YQ P ops W o v a' := by
  unfold YQ givW Oper.quietAt at *
  rw [he, hw]
  exact hy

theorem fOp_put {j : Nat} {oi oj : Oper} {v : Value} (hj : ops[j]? = some oj) (hap : oi.apart ops oj = true) (hsi : ∀ cs b, oi.op ≠ .select cs b) (hsj : ∀ cs b, oj.op ≠ .select cs b) {K : LaidB → Act → Prop} {A : LaidB} {a : Act}
    (hy : YQ P ops W oi v a) (h : fOp P ops W m ob j K A (a.put oi.dst v)) : fOp P ops W m ob j (fun A' a' => YQ P ops W oi v a' ∧ K A' (a'.put oi.dst v)) A a := by
  obtain ⟨h1, h2, h3⟩ := Oper.apart_spec hap
  have keep : ∀ u, YQ P ops W oi v (a.put oj.dst u) := fun u => hy.of_same (execOp_put oi hsi a oj.dst u h3) (wanted_put oi a oj.dst u h3)
  unfold fOp at *
  simp only [hj] at *
  split
  · rename_i hm
    rw [if_pos hm] at h
    exact fun g hg => ⟨keep _, by rw [← Act.put_comm a v _ h2]; exact h g hg⟩
  · rename_i hm
    rw [if_neg hm] at h
    obtain ⟨u, hu, hn⟩ := h
    exact ⟨u, hu.of_same (execOp_put oj hsj a oi.dst v h1).symm (wanted_put oj a oi.dst v h1).symm, keep _, by rw [← Act.put_comm a v u h2]; exact hn⟩

/-- An operation that reads or calls may come up first. -/
theorem headF_first {n i : Nat} {oi : Oper} {v : Value} {L : Array Bool → LaidB → Act → Prop} (hi : ops[i]? = some oi) (him : i < m) (hsel : ∀ (j : Nat) (o : Oper) cs b, ops[j]? = some o → o.op ≠ .select cs b)
    (hs : Region.sinkB md ops n = true) (hc : Region.chainB md ops n = true) (hn : n < ops.size) (hin : i < n) (hdone : ∀ done A a, L done A a → ∀ j ∈ Region.ready md ops done, n ≤ j) :
    ∀ (k : Nat) (done : Array Bool) (A : LaidB) (a : Act), finB W.heap.size A → HeadInv md ops n done →
      (∀ j oj, ops[j]? = some oj → j ≠ i → done.getD j true = false → (∀ e ∈ oj.after, Region.binds md e = true → e.on ≠ i) → oi.apart ops oj = true) →
      i ∈ Region.ready md ops done → YQ P ops W oi v a → headF P md ops W m ob n L k (done.setIfInBounds i true) A (a.put oi.dst v) → headF P md ops W m ob n L (k + 1) done A a := by
  have self : ∀ {K : LaidB → Act → Prop} {A : LaidB} {a : Act}, YQ P ops W oi v a → K A (a.put oi.dst v) → fOp P ops W m ob i K A a := fun hy hK => by
    unfold fOp; simp only [hi]; rw [if_neg (by omega)]; exact ⟨v, hy, hK⟩
  intro k
  induction k with
  | zero =>
    intro done A a hfin inv _ hr hy H
    have hun := (mem_ready.1 hr).1
    refine ⟨fun h => (by rw [h] at hr; cases hr), fun j hj => ?_⟩
    have hjn : j < n := Nat.lt_of_not_le fun h => tail_waits hs hc hn inv _ i rfl hin hun j h hj
    refine ⟨hjn, ?_⟩
    by_cases e : j = i
    · subst e; exact self hy H
    · exact absurd (hdone _ _ _ H j (ready_mono hj e)) (Nat.not_le.2 hjn)
  | succ k ih =>
    intro done A a hfin inv hfree hr hy H
    have hun := (mem_ready.1 hr).1
    refine ⟨fun h => (by rw [h] at hr; cases hr), fun j hj => ?_⟩
    have hjn : j < n := Nat.lt_of_not_le fun h => tail_waits hs hc hn inv _ i rfl hin hun j h hj
    refine ⟨hjn, ?_⟩
    by_cases e : j = i
    · subst e; exact self hy H
    · obtain ⟨hjun, oj, hoj, hall⟩ := mem_ready.1 hj
      have hnot : ∀ x ∈ oj.after, Region.binds md x = true → x.on ≠ i := fun x hx hb heq => by
        have h1 := hall x hx hb
        rw [heq, getD_both hun] at h1
        cases h1
      have h2 := fOp_put hoj (hfree j oj hoj e hjun hnot) (fun cs b => hsel i oi cs b hi) (fun cs b => hsel j oj cs b hoj) hy (H.2 j (ready_mono hj e)).2
      refine fOp_mono hfin (fun A' a' hf' h3 => ih (done.setIfInBounds j true) A' a' hf' (inv.set hj hjn) (fun q om hm hmi hmun hno => hfree q om hm hmi ?_ hno) (ready_mono hr (Ne.symm e)) h3.1 ?_) h2
      · by_cases hjm : j = q
        · subst hjm; exact hjun
        · rw [getD_set_ne true hjm] at hmun; exact hmun
      · rw [Array.setIfInBounds_comm _ _ e]
        exact h3.2

/-- When blocks alone are left to be laid. -/
theorem headF_lay {n i : Nat} {oi : Oper} {L : Array Bool → LaidB → Act → Prop} (hi : ops[i]? = some oi) (him : m ≤ i)
    (hs : Region.sinkB md ops n = true) (hc : Region.chainB md ops n = true) (hn : n < ops.size) (hin : i < n) (hdone : ∀ done A a, L done A a → ∀ j ∈ Region.ready md ops done, n ≤ j) :
    ∀ (k : Nat) (done : Array Bool) (A : LaidB) (a : Act), finB W.heap.size A → HeadInv md ops n done → (∀ j, j < n → done.getD j true = false → m ≤ j) →
      (∀ j oj, ops[j]? = some oj → j ≠ i → done.getD j true = false → (∀ e ∈ oj.after, Region.binds md e = true → e.on ≠ i) → oi.apart ops oj = true) →
      i ∈ Region.ready md ops done → (∀ g, freshB W.heap.size A g → headF P md ops W m ob n L k (done.setIfInBounds i true) (putB A g (ob i)) (a.put oi.dst (ptrB g))) → headF P md ops W m ob n L (k + 1) done A a := by
  have self : ∀ {K : LaidB → Act → Prop} {A : LaidB} {a : Act}, (∀ g, freshB W.heap.size A g → K (putB A g (ob i)) (a.put oi.dst (ptrB g))) → fOp P ops W m ob i K A a := fun hK => by
    unfold fOp; simp only [hi]; rw [if_pos him]; exact hK
  intro k
  induction k with
  | zero =>
    intro done A a hfin inv _ _ hr H
    have hun := (mem_ready.1 hr).1
    refine ⟨fun h => (by rw [h] at hr; cases hr), fun j hj => ?_⟩
    have hjn : j < n := Nat.lt_of_not_le fun h => tail_waits hs hc hn inv _ i rfl hin hun j h hj
    refine ⟨hjn, ?_⟩
    by_cases e : j = i
    · subst e; exact self H
    · obtain ⟨N, hN⟩ := hfin
      exact absurd (hdone _ _ _ (H N (hN N (Nat.le_refl _))) j (ready_mono hj e)) (Nat.not_le.2 hjn)
  | succ k ih =>
    intro done A a hfin inv hblk hfree hr H
    have hun := (mem_ready.1 hr).1
    refine ⟨fun h => (by rw [h] at hr; cases hr), fun j hj => ?_⟩
    have hjn : j < n := Nat.lt_of_not_le fun h => tail_waits hs hc hn inv _ i rfl hin hun j h hj
    refine ⟨hjn, ?_⟩
    by_cases e : j = i
    · subst e; exact self H
    · obtain ⟨hjun, oj, hoj, hall⟩ := mem_ready.1 hj
      have hmj : m ≤ j := hblk j hjn hjun
      have hnot : ∀ x ∈ oj.after, Region.binds md x = true → x.on ≠ i := fun x hx hb heq => by
        have h1 := hall x hx hb
        rw [heq, getD_both hun] at h1
        cases h1
      have hd := (Oper.apart_spec (hfree j oj hoj e hjun hnot)).2.1
      unfold fOp
      simp only [hoj]
      rw [if_pos hmj]
      intro g' hg'
      refine ih (done.setIfInBounds j true) _ _ (fin_put hfin _ _) (inv.set hj hjn) (fun q hq hqu => hblk q hq ?_) (fun q om hm hmi hmun hno => hfree q om hm hmi ?_ hno) (ready_mono hr (Ne.symm e)) ?_
      · by_cases hjm : j = q
        · subst hjm; exact hjun
        · rw [getD_set_ne true hjm] at hqu; exact hqu
      · by_cases hjm : j = q
        · subst hjm; exact hjun
        · rw [getD_set_ne true hjm] at hmun; exact hmun
      · intro g hg
        obtain ⟨hne, hfg⟩ := fresh_put.1 hg
        have h2 := (H g hfg).2 j (ready_mono hj e)
        have h3 := h2.2
        unfold fOp at h3
        simp only [hoj] at h3
        rw [if_pos hmj] at h3
        have h4 := h3 g' (fresh_put.2 ⟨Ne.symm hne, hg'⟩)
        rw [Array.setIfInBounds_comm _ _ e, putB_comm (Ne.symm hne), ← Act.put_comm a _ _ hd]
        exact h4

theorem getD_set_same (d : Array Bool) (k : Nat) : (d.setIfInBounds k true).getD k true = true := by
  simp only [Array.getD_eq_getD_getElem?, Array.getElem?_setIfInBounds]
  simp
  split <;> simp_all
/-- The walk in the order of the text. -/
def wpG (P : Program) (ops : Array Oper) (W : World) (Q : Act → Prop) : List Oper → Act → Prop
  | [], a => Q a
  | o :: rest, a => if Region.wanted o (yielded ops a.tmps) then ∃ v, givW P W o a v ∧ wpG P ops W Q rest (a.put o.dst v) else wpG P ops W Q rest (a.put o.dst undef)
theorem wpG_nil {Q : Act → Prop} {a : Act} (h : Q a) : wpG P ops W Q [] a := h
theorem wpG_step {Q : Act → Prop} {a : Act} {o : Oper} {rest : List Oper}
    (h : ∀ K : Act → Prop, (∀ a, wpG P ops W Q rest a → K a) → if Region.wanted o (yielded ops a.tmps) then ∃ v, (∀ p : Regrown, o.quietAt P a (fun w'' => Below (grow (redrawn W p.d) p.os).heap.size (grow (redrawn W p.d) p.os) w'') (grow (redrawn W p.d) p.os) v) ∧ K (a.put o.dst v) else K (a.put o.dst undef)) :
    wpG P ops W Q (o :: rest) a := h _ (fun _ h => h)
/-- The blocks, one behind the other. -/
def wpB (W : World) (ob : Nat → Obj) (K : LaidB → Act → Prop) : List Oper → Nat → LaidB → Act → Prop
  | [], _, A, a => K A a
  | o :: rest, i, A, a => ∀ g, freshB W.heap.size A g → wpB W ob K rest (i + 1) (putB A g (ob i)) (a.put o.dst (ptrB g))

theorem headF_blocks {n g : Nat} {K : LaidB → Act → Prop} (hs : Region.sinkB md ops n = true) (hc : Region.chainB md ops n = true) (hn : n < ops.size) :
    ∀ (l : List Oper) (k : Nat) (done : Array Bool) (A : LaidB) (a : Act), m ≤ k → (∀ j, j < k → done.getD j true = true) → (∀ j, j < l.length → l[j]? = ops[k + j]?) → k + l.length = n → finB W.heap.size A → HeadInv md ops n done → Region.lexHead md ops g l.length k done = true →
    wpB W ob K l k A a → headF P md ops W m ob n (fun done' A' a' => Region.seqB md ops g n done' = true ∧ K A' a') l.length done A a
  | [], k, done, A, a, _, _, _, hk, _, _, hB, h => by
    obtain rfl : k = n := by simpa using hk
    exact ⟨by simpa [Region.lexHead] using hB, h⟩
  | o :: l, k, done, A, a, hmk, hdn, hl, hk, hfin, inv, hB, h => by
    have h0 : ops[k]? = some o := by simpa using (hl 0 (by simp)).symm
    simp only [List.length_cons, Region.lexHead, Bool.and_eq_true] at hB
    obtain ⟨⟨hr, hf⟩, hB'⟩ := hB
    have hkn : k < n := by simp only [List.length_cons] at hk; omega
    have hr' : k ∈ Region.ready md ops done := by simpa using hr
    refine headF_lay h0 hmk hs hc hn hkn (fun d' A' a' hL => seqB_ready hL.1) l.length done A a hfin inv (fun j hj hju => ?_) (Region.free_spec h0 hf) hr' (fun g0 hg0 => ?_)
    · rcases Nat.lt_or_ge j k with h1 | h1
      · rw [hdn j h1] at hju; cases hju
      · omega
    · refine headF_blocks hs hc hn l (k + 1) _ _ _ (by omega) (fun j hj => ?_) (fun j hj => by have := hl (j + 1) (by simp; omega); simpa [Nat.add_assoc, Nat.add_comm 1 j] using this) (by simp only [List.length_cons] at hk; omega) (fin_put hfin _ _) (inv.set hr' hkn) hB' (h g0 hg0)
      by_cases e : k = j
      · subst e; exact getD_set_same _ _
      · rw [getD_set_ne true e]; exact hdn j (by omega)

theorem headF_lex {n g : Nat} {A : LaidB} {K : LaidB → Act → Prop} {lb : List Oper} (hfin : finB W.heap.size A) (hsel : Region.noSelect ops = true) (hs : Region.sinkB md ops n = true) (hc : Region.chainB md ops n = true) (hn : n < ops.size) (hlb : ∀ j, j < lb.length → lb[j]? = ops[m + j]?) (hmn : m + lb.length = n) :
    ∀ (l : List Oper) (k : Nat) (done : Array Bool) (a : Act), (∀ j, j < l.length → l[j]? = ops[k + j]?) → k + l.length = m → (∀ j, j < k → done.getD j true = true) → HeadInv md ops n done → Region.lexHead md ops g (l.length + lb.length) k done = true →
    wpG P ops W (fun a' => wpB W ob K lb m A a') l a → headF P md ops W m ob n (fun done' A' a' => Region.seqB md ops g n done' = true ∧ K A' a') (l.length + lb.length) done A a
  | [], k, done, a, _, hk, hdn, inv, hB, h => by
    obtain rfl : k = m := by simpa using hk
    simp only [List.length_nil, Nat.zero_add] at hB ⊢
    exact headF_blocks hs hc hn lb k done A a (Nat.le_refl _) hdn hlb hmn hfin inv hB h
  | o :: l, k, done, a, hl, hk, hdn, inv, hB, h => by
    have h0 : ops[k]? = some o := by simpa using (hl 0 (by simp)).symm
    rw [List.length_cons, Nat.add_right_comm] at hB ⊢
    simp only [Region.lexHead, Bool.and_eq_true] at hB
    obtain ⟨⟨hr, hf⟩, hB'⟩ := hB
    have hkm : k < m := by simp only [List.length_cons] at hk; omega
    have hr' : k ∈ Region.ready md ops done := by simpa using hr
    obtain ⟨v, hy, hK⟩ : ∃ v, YQ P ops W o v a ∧ wpG P ops W (fun a' => wpB W ob K lb m A a') l (a.put o.dst v) := by
      unfold wpG at h
      split at h
      · rename_i hw; obtain ⟨v, h1, h2⟩ := h; exact ⟨v, .inl ⟨hw, h1⟩, h2⟩
      · rename_i hw; exact ⟨undef, .inr ⟨by simpa using hw, rfl⟩, h⟩
    refine headF_first h0 hkm (Region.noSelect_spec hsel) hs hc hn (by omega) (fun d' A' a' hL => seqB_ready hL.1) (l.length + lb.length) done A a hfin inv (Region.free_spec h0 hf) hr' hy
      (headF_lex hfin hsel hs hc hn hlb hmn l (k + 1) _ _ (fun j hj => by have := hl (j + 1) (by simp; omega); simpa [Nat.add_assoc, Nat.add_comm 1 j] using this) (by simp only [List.length_cons] at hk; omega) (fun j hj => ?_) (inv.set hr' (by omega)) hB' hK)
    by_cases e : k = j
    · subst e; exact getD_set_same _ _
    · rw [getD_set_ne true e]; exact hdn j (by omega)
end

/-- m: the operations that read and call; n - m blocks are laid behind them in the text; the rest stores in one forced order. -/
theorem region_bl {P : Program} {id : Nat} {Q : Exit → Act → World → Prop} {a : Act} {w : World} {l : List Oper} (m n : Nat) (ob : Nat → Obj) (S : World → Prop) (hm : P.follows .mixedOrders = true) (hB : Region.lexTailB .any l.toArray n = true) (hmn : m ≤ n) (hS : S w) (hLay : Lays P l.toArray m n ob)
    (h : ∀ W, S W → wpG P l.toArray W (fun a' => wpB W ob (fun A a'' => ∀ w', Below W.heap.size W w' → okB A w' → wpList P l.toArray Q (l.drop n) a'' w') ((l.drop m).take (n - m)) m (fun _ => none) a') (l.take m) a) : (Code.region id l.toArray true).wp P Q a w := by
  simp only [Region.lexTailB, Bool.and_eq_true, decide_eq_true_eq] at hB
  obtain ⟨⟨⟨⟨hsel, hn⟩, hs⟩, hc⟩, hlex⟩ := hB
  have hnl : n < l.length := by simpa using hn
  have htl : (l.take m).length = m := by simp; omega
  have hbl : ((l.drop m).take (n - m)).length = n - m := by simp; omega
  have hdl : (l.drop n).length = l.toArray.size - n := by simp
  have inv0 : HeadInv .any l.toArray n (Array.replicate l.toArray.size false) :=
    ⟨by simp, fun j oj _ hl => (by rw [getD_replicate_false] at hl; cases hl), fun t _ ht => getD_in (by simpa using ht) (getD_replicate_false _ _)⟩
  have H := headF_lex (md := .any) (g := l.toArray.size - n) (A := fun _ => none) (lb := (l.drop m).take (n - m)) ⟨w.heap.size, fun g hg => ⟨rfl, hg⟩⟩ hsel hs hc hn (fun j hj => by
      rw [hbl] at hj
      simp [hj]) (by rw [hbl]; omega) (l.take m) 0 _ a (fun j hj => by
    have hj' : j < m := by rw [htl] at hj; exact hj
    simp [hj']) (by simpa using htl) (fun j hj => by omega) inv0 (by rw [htl, hbl, show m + (n - m) = n by omega]; exact hlex) (h w hS)
  refine wp_region_any hm ?_
  have := any_of_headF (md := .any) (W := w) (R := Q) (g := l.toArray.size - n) (L := fun done' A' a' => Region.seqB .any l.toArray (l.toArray.size - n) n done' = true ∧ ∀ w', Below w.heap.size w w' → okB A' w' → wpList P l.toArray Q (l.drop n) a' w') hLay (fun done A a' W' hW hA hL => by
    have h2 := hL.2 W' hW hA
    have h3 := wpAny_of_seq (md := .any) (l.drop n) n done a' W' (fun j => by simp) (by rw [hdl]; exact hL.1) h2
    rwa [hdl] at h3) _ _ (fun _ => none) a w.drew ⟨rfl, rfl, rfl, Nat.le_refl _, fun _ _ => rfl⟩ (fun g o hg => by cases hg) H
  rw [htl, hbl, show m + (n - m) + (l.toArray.size - n) = l.toArray.size by omega] at this
  exact this
theorem laid_one {g : Nat} {o : Obj} {w : World} (h : okB (putB (fun _ => none) g o) w) : w.heap[g]? = some o := h g o (by simp [putB])
theorem laid_two {B g1 g2 : Nat} {o1 o2 : Obj} {w : World} (h : okB (putB (putB (fun _ => none) g1 o1) g2 o2) w) (hf : freshB B (putB (fun _ => none) g1 o1) g2) : w.heap[g1]? = some o1 ∧ w.heap[g2]? = some o2 ∧ g2 ≠ g1 := by
  have hne := (fresh_put.1 hf).1
  exact ⟨h g1 o1 (by simp [putB, Ne.symm hne]), h g2 o2 (by simp [putB]), hne⟩
/-- A callee's contract, met in such a region. -/
theorem calls_on {P : Program} {f : FuncId} {args : Array Value} {W : World} {d : Nat} {os : Array Obj} {v : Value} (h : Calls P f args (grow (redrawn W d) os) fun e w' => e = .returned v ∧ Below (grow (redrawn W d) os).heap.size (grow (redrawn W d) os) w') :
    Calls P f args (grow (redrawn W d) os) fun e w'' => e = .returned v ∧ Below ((redrawn W d).heap.size + os.size) (grow (redrawn W d) os) w'' := by
  have e : (grow (redrawn W d) os).heap.size = (redrawn W d).heap.size + os.size := by simp [grow]
  rwa [e] at h
end Go.Proofs.YtkgphbjneaagoaaDoor

set_option linter.unusedVariables false
namespace Go.Proofs.YtkgphbjneaagoaaDoor
open Go.RowKit Go.Sort

theorem Bs.on {w W : World} {l : List Bk} (h : Bs w l W) (i : Nat) {g : Nat} {t : TypeId} {cs : Array Value} (hi : l[i]? = some ⟨g, t, cs⟩) : ∀ d os o, (grow (redrawn W d) os).cell? ⟨g, o, none⟩ = cs[o]? := cells_on (h.at_ i hi).cell (h.at_ i hi).lt
/-- A contract that turns nothing makes no memory. -/
theorem below_of {P : Program} {f : FuncId} {args : Array Value} {w : World} {v : Value} (h : Calls P f args w fun e w' => e = .returned v ∧ w = w') : Calls P f args w fun e w' => e = .returned v ∧ Below w.heap.size w w' :=
  h.mono fun _ _ ⟨a, b⟩ => ⟨a, b ▸ Below.refl _ _⟩
/-- One more block, apart from those that are there. -/
theorem Bs.more {w W : World} {l : List Bk} {g : Nat} {t : TypeId} {cs : Array Value} (h : Bs w l W) (hB : Blk W g t cs) (hg : w.heap.size ≤ g) (hne : ∀ (i : Nat) (b : Bk), l[i]? = some b → b.g ≠ g) : Bs w (l ++ [⟨g, t, cs⟩]) W := by
  have key : ∀ i b, (l ++ [⟨g, t, cs⟩])[i]? = some b → l[i]? = some b ∨ (i = l.length ∧ b = ⟨g, t, cs⟩) := fun i b hi => by
    rw [List.getElem?_append] at hi
    split at hi
    · exact .inl hi
    · rename_i hlt
      by_cases e : i = l.length
      · subst e; simp at hi; exact .inr ⟨rfl, hi.symm⟩
      · rw [List.getElem?_eq_none (by simp; omega)] at hi; cases hi
  refine ⟨fun i b hi => ?_, fun i b hi => ?_, fun i j b d hi hj hij => ?_, h.below⟩
  · rcases key i b hi with h1 | ⟨_, rfl⟩
    · exact h.blk i b h1
    · exact hB
  · rcases key i b hi with h1 | ⟨_, rfl⟩
    · exact h.lo i b h1
    · exact hg
  · rcases key i b hi with h1 | ⟨e1, rfl⟩
    · rcases key j d hj with h2 | ⟨e2, rfl⟩
      · exact h.apart i j b d h1 h2 hij
      · exact hne i b h1
    · rcases key j d hj with h2 | ⟨e2, rfl⟩
      · exact Ne.symm (hne j d h2)
      · omega
theorem Bs.old {w W : World} {l : List Bk} (h : Bs w l W) {i : Nat} {b : Bk} (hi : l[i]? = some b) : b.g < W.heap.size := (h.blk i b hi).lt
theorem Bs.laid1 {w W w1 : World} {l : List Bk} {g : Nat} {t : TypeId} {cs : Array Value} (h : Bs w l W) (hb : Below W.heap.size W w1) (hg : freshB W.heap.size (fun _ => none) g) (hA : okB (putB (fun _ => none) g (.cells cs t)) w1) : Bs w (l ++ [⟨g, t, cs⟩]) w1 :=
  h.new hb (hA g _ (by simp [putB])) hg.2
theorem Bs.laid2 {w W w1 : World} {l : List Bk} {g k : Nat} {t u : TypeId} {cs ds : Array Value} (h : Bs w l W) (hb : Below W.heap.size W w1) (hg : freshB W.heap.size (fun _ => none) g) (hk : freshB W.heap.size (putB (fun _ => none) g (.cells cs t)) k)
    (hA : okB (putB (putB (fun _ => none) g (.cells cs t)) k (.cells ds u)) w1) : Bs w (l ++ [⟨g, t, cs⟩, ⟨k, u, ds⟩]) w1 := by
  have hne : k ≠ g := (fresh_put.1 hk).1
  have h1 : Bs w (l ++ [⟨g, t, cs⟩]) w1 := h.new hb (hA g _ (by simp [putB, Ne.symm hne])) hg.2
  have := h1.more (g := k) (t := u) (cs := ds) (hA k _ (by simp [putB])) (Nat.le_trans h.below.size hk.2) (fun i b hi => by
    rw [List.getElem?_append] at hi
    split at hi
    · have := h.old hi; have := hk.2; omega
    · rename_i hlt
      by_cases e : i = l.length
      · subst e; simp at hi; subst hi; exact Ne.symm hne
      · rw [List.getElem?_eq_none (by simp; omega)] at hi; cases hi)
  simpa using this
theorem Bs.laid3 {w W w1 : World} {l : List Bk} {g k j : Nat} {t u v : TypeId} {cs ds es : Array Value} (h : Bs w l W) (hb : Below W.heap.size W w1) (hg : freshB W.heap.size (fun _ => none) g) (hk : freshB W.heap.size (putB (fun _ => none) g (.cells cs t)) k)
    (hj : freshB W.heap.size (putB (putB (fun _ => none) g (.cells cs t)) k (.cells ds u)) j) (hA : okB (putB (putB (putB (fun _ => none) g (.cells cs t)) k (.cells ds u)) j (.cells es v)) w1) : Bs w (l ++ [⟨g, t, cs⟩, ⟨k, u, ds⟩, ⟨j, v, es⟩]) w1 := by
  have hne : k ≠ g := (fresh_put.1 hk).1
  have hj1 := fresh_put.1 hj
  have hj2 := (fresh_put.1 hj1.2).1
  have h1 : Bs w (l ++ [⟨g, t, cs⟩]) w1 := h.new hb (hA g _ (by simp [putB, Ne.symm hne, Ne.symm hj2])) hg.2
  have key : ∀ (i : Nat) (b : Bk), (l ++ [⟨g, t, cs⟩])[i]? = some b → b.g < W.heap.size ∨ b.g = g := fun i b hi => by
    rw [List.getElem?_append] at hi
    split at hi
    · exact .inl (h.old hi)
    · rename_i hlt
      by_cases e : i = l.length
      · subst e; simp at hi; subst hi; exact .inr rfl
      · rw [List.getElem?_eq_none (by simp; omega)] at hi; cases hi
  have h2 := h1.more (g := k) (t := u) (cs := ds) (hA k _ (by simp [putB, Ne.symm hj1.1])) (Nat.le_trans h.below.size hk.2) (fun i b hi => by
    rcases key i b hi with h3 | h3
    · have := hk.2; omega
    · rw [h3]; exact Ne.symm hne)
  have h4 := h2.more (g := j) (t := v) (cs := es) (hA j _ (by simp [putB])) (Nat.le_trans h.below.size hj.2) (fun i b hi => by
    rw [List.getElem?_append] at hi
    split at hi
    · rcases key i b hi with h3 | h3
      · have := hj.2; omega
      · rw [h3]; exact Ne.symm hj2
    · rename_i hlt
      by_cases e : i = (l ++ [(⟨g, t, cs⟩ : Bk)]).length
      · subst e; simp at hi; subst hi; exact Ne.symm hj1.1
      · rw [List.getElem?_eq_none (by simp at hlt e ⊢; omega)] at hi; cases hi)
  simpa using h4

/-- A load of an aggregate in a region that draws its order and makes memory: by law. -/
theorem wpQuiet_load_b {P : Program} {ops : Array Oper} {W : World} {Q : Act → Prop} {rest : List Oper} {o : Oper} {a : Act} (hw : Region.wanted o (yielded ops a.tmps) = true) (ty : TypeId) (x : Operand) (ho : o.op = .load ty x)
    {g k : Nat} {t : TypeId} {cs : Array Value} (hB : Blk W g t cs) (n : Nat) (v : Value) (hx : a.eval x = .pointer (some ⟨g, k, none⟩)) (d : TypeDesc)
    (hu : P.underlying ty = some d) (hd : (match d with | .struct _ | .array _ _ => true | _ => false) = true) (hi : (P.info? ty).map (·.size) = some n) (hn : k + n ≤ cs.size) (hv : Value.agg ((cs.toList.drop k).take n).toArray = v)
    (h : wpQuiet P ops (laidOn W) Q rest (a.put o.dst v)) : wpQuiet P ops (laidOn W) Q (o :: rest) a :=
  wpQuiet_step fun K hK => by
    subst hv
    rw [if_pos hw]
    refine ⟨_, fun w hw => ?_, hK _ h⟩
    obtain ⟨p, rfl⟩ := hw
    have hB' : Blk (grow (redrawn W p.d) p.os) g t cs := hB.after (below_regrown _ _ _)
    unfold Oper.quietAt execOp
    simp only [ho, hx, Instr.loadAt, Instr.sureAddr, Sem.run_bind, Sem.run_pure, Result.andThen_ok, run_loadVar_at _ g k t ty cs n d hB' hn hu hd hi]
    exact ⟨rfl, rfl⟩
theorem wpG_load_b {P : Program} {ops : Array Oper} {W : World} {Q : Act → Prop} {rest : List Oper} {o : Oper} {a : Act} (hw : Region.wanted o (yielded ops a.tmps) = true) (ty : TypeId) (x : Operand) (ho : o.op = .load ty x)
    {g k : Nat} {t : TypeId} {cs : Array Value} (hB : Blk W g t cs) (n : Nat) (v : Value) (hx : a.eval x = .pointer (some ⟨g, k, none⟩)) (d : TypeDesc)
    (hu : P.underlying ty = some d) (hd : (match d with | .struct _ | .array _ _ => true | _ => false) = true) (hi : (P.info? ty).map (·.size) = some n) (hn : k + n ≤ cs.size) (hv : Value.agg ((cs.toList.drop k).take n).toArray = v)
    (h : wpG P ops W Q rest (a.put o.dst v)) : wpG P ops W Q (o :: rest) a :=
  wpG_step fun K hK => by
    subst hv
    rw [if_pos hw]
    refine ⟨_, fun p => ?_, hK _ h⟩
    have hB' : Blk (grow (redrawn W p.d) p.os) g t cs := hB.after (below_regrown _ _ _)
    unfold Oper.quietAt execOp
    simp only [ho, hx, Instr.loadAt, Instr.sureAddr, Sem.run_bind, Sem.run_pure, Result.andThen_ok, run_loadVar_at _ g k t ty cs n d hB' hn hu hd hi]
    exact ⟨rfl, rfl⟩
end Go.Proofs.YtkgphbjneaagoaaDoor
