/- Stores and loads of whole aggregates by law, the world behind kept abstract. -/
import Derived.Test.YtflgnlpippjhcaaBk
import Derived.Laws.Tables
set_option linter.unusedVariables false
namespace Go.Proofs.Ytflgnlpippjhcaa
open Go.RowKit

/-- Block g alone was written. -/
structure Put (w w' : World) (g : Nat) : Prop where
  os : w'.os = w.os
  tape : w'.tape = w.tape
  output : w'.output = w.output
  size : w'.heap.size = w.heap.size
  block : ∀ k, k ≠ g → w'.heap[k]? = w.heap[k]?
theorem Put.below {w w' : World} {g B : Nat} (h : Put w w' g) (hB : B ≤ g) : Below B w w' := ⟨h.os, h.tape, h.output, by rw [h.size]; exact Nat.le_refl _, fun k hk => h.block k (by omega)⟩
theorem Put.row {w : World} {g : Nat} (cs : Array Value) : Put w (w.setRow g cs) g := ⟨rfl, rfl, rfl, by simp, fun k hk => setRow_other w g k cs hk⟩
theorem Blk.put {w w' : World} {g k : Nat} {t : TypeId} {cs : Array Value} (h : Blk w k t cs) (hp : Put w w' g) (hk : k ≠ g) : Blk w' k t cs := (hp.block k hk).trans h
theorem below_put {B : Nat} {w0 w w' : World} {g : Nat} (h : Below B w0 w) (hp : Put w w' g) (hg : B ≤ g) : Below B w0 w' := h.trans (hp.below hg)

/-- Cells with others laid over them from k on. -/
def spl (cs : Array Value) (k : Nat) (vs : List Value) : Array Value := (cs.toList.take k ++ vs ++ cs.toList.drop (k + vs.length)).toArray

theorem setRow_same (w : World) (g : Nat) (t : TypeId) (cs : Array Value) (hg : w.heap[g]? = some (.cells cs t (0, 0))) : w.setRow g cs = w := by
  have hv : w.heap[g]? = some (.cells cs t (0, 0)) := hg
  obtain ⟨hlt, hv⟩ := Array.getElem?_eq_some_iff.1 hg
  unfold World.setRow
  cases w with
  | mk heap tape drawn os output =>
    congr 1
    apply Array.ext
    · simp
    · intro k h1 h2
      simp only [Array.getElem_modify]
      split
      · rename_i hk; subst hk; simp at hv; simp [hv]
      · rfl
theorem set_spl {cs : List Value} {k : Nat} (hk : k < cs.length) (v : Value) (vs : List Value) : (cs.set k v).take (k + 1) ++ vs ++ (cs.set k v).drop (k + 1 + vs.length) = cs.take k ++ (v :: vs) ++ cs.drop (k + (v :: vs).length) := by
  have h1 : (cs.set k v).take (k + 1) = cs.take k ++ [v] := by
    rw [List.take_succ_eq_append_getElem (by simpa using hk)]
    simp [List.take_set_of_le]
  have h2 : (cs.set k v).drop (k + 1 + vs.length) = cs.drop (k + (v :: vs).length) := by
    rw [List.drop_set_of_lt (by omega)]
    congr 1
    simp; omega
  rw [h1, h2]; simp
theorem run_storeCells_at {P : Program} (g : Nat) (t : TypeId) (b : Nat) : ∀ (vs : List Value) (i : Nat) (cur : Array Value) (w : World), w.heap[g]? = some (.cells cur t (0, 0)) → b + i + vs.length ≤ cur.size → (∀ v ∈ vs, v.oneCell' = true) →
    (storeCells ⟨g, b, none⟩ vs i).run P w = .ok () (w.setRow g (spl cur (b + i) vs))
  | [], i, cur, w, hg, hl, _ => by
    have e : spl cur (b + i) [] = cur := by unfold spl; simp
    rw [e, setRow_same w g t cur hg]
    rfl
  | v :: rest, i, cur, w, hg, hl, h1 => by
    have hi : b + i < cur.size := by simp at hl; omega
    have hadd : (⟨g, b, none⟩ : Addr).add i = ⟨g, b + i, none⟩ := by unfold Addr.add; split <;> simp_all
    have hcell : w.cell? ⟨g, b + i, none⟩ = some cur[b + i] := by simp [World.cell?, hg, hi]
    have hfro : w.frozen? ⟨g, b + i, none⟩ = false := by simp [World.frozen?, hg]
    have hst : (store ((⟨g, b, none⟩ : Addr).add i) v).run P w = .ok () (w.setRow g (cur.setIfInBounds (b + i) v)) := by
      rw [hadd, run_store P w _ v _ (h1 v (by simp)), hcell]
      simp [hfro, setCell_eq_setRow w g (b + i) cur t (0, 0) v hg]
    have ih := run_storeCells_at (P := P) g t b rest (i + 1) (cur.setIfInBounds (b + i) v) (w.setRow g (cur.setIfInBounds (b + i) v)) (setRow_heap w g cur _ t _ hg) (by simp at hl ⊢; omega) (fun x hx => h1 x (by simp [hx]))
    simp only [storeCells, Sem.run_bind, hst, Result.andThen_ok, ih, setRow_setRow]
    congr 2
    unfold spl
    rw [show b + (i + 1) = b + i + 1 by omega]
    congr 1
    have := set_spl (cs := cur.toList) (k := b + i) (by simpa using hi) v rest
    simpa using this
theorem run_storeVar_at {P : Program} (w : World) (g k : Nat) (t ty : TypeId) (old : Array Value) (v : Value) (hg : w.heap[g]? = some (.cells old t (0, 0))) (hi : (P.info? ty).map (·.size) = some v.cells.size)
    (ho : k + v.cells.size ≤ old.size) (h1 : v.cells.all (·.oneCell') = true) :
    (storeVar ty ⟨g, k, none⟩ v).run P w = .ok () (w.setRow g (spl old k v.cells.toList)) := by
  have := run_storeCells_at (P := P) g t k v.cells.toList 0 old w hg (by simp; omega) (fun v hv => (Array.all_eq_true_iff_forall_mem.1 h1) v (by simpa using hv))
  cases hq : P.info? ty with
  | none => simp [hq] at hi
  | some i =>
    have hs : v.cells.size = i.size := by simp [hq] at hi; omega
    simp only [Nat.add_zero] at this
    simp [storeVar, sizeOf, typeInfo, hq, hs, this]

/-- A store into a block: its cells are spliced; the world behind is any that differs there alone. -/
theorem wpList_store_at {P : Program} {ops : Array Oper} {rest : List Oper} {o : Oper} {a : Act} {w : World} {Q : Exit → Act → World → Prop} (hgd : o.guard = none) (ty : TypeId) (x y : Operand) (ho : o.op = .store ty x y)
    {g k : Nat} {t : TypeId} {old : Array Value} (hB : Blk w g t old) (v : Value) (hx : a.eval x = .pointer (some ⟨g, k, none⟩)) (hy : a.eval y = v) (hi : (P.info? ty).map (·.size) = some v.cells.size)
    (hk : k + v.cells.size ≤ old.size) (h1 : v.cells.all (·.oneCell') = true)
    (h : ∀ w', Blk w' g t (spl old k v.cells.toList) → Put w w' g → wpList P ops Q rest (a.put o.dst undef) w') : wpList P ops Q (o :: rest) a w :=
  wpList_plain hgd fun _ hK => by
    subst hy
    unfold Oper.wp execOp
    simp only [ho, hx, Instr.storeAt, Instr.sureAddr, Sem.run_bind, Sem.run_pure, Result.andThen_ok, run_storeVar_at w g k t ty old _ hB hi hk h1]
    exact hK _ _ (h _ (setRow_heap w g old _ t _ hB) (Put.row _))
/-- A load of an aggregate out of the midst of a block. -/
theorem run_loadVar_at {P : Program} (w : World) (g k : Nat) (t ty : TypeId) (cs : Array Value) (n : Nat) (d : TypeDesc) (hg : w.heap[g]? = some (.cells cs t (0, 0))) (hn : k + n ≤ cs.size)
    (hu : P.underlying ty = some d) (hd : (match d with | .struct _ | .array _ _ => true | _ => false) = true) (hi : (P.info? ty).map (·.size) = some n) :
    (loadVar ty ⟨g, k, none⟩).run P w = .ok (.agg ((cs.toList.drop k).take n).toArray) w := by
  have hlen : ((cs.toList.drop k).take n).length = n := by simp; omega
  have hl : (loadCells ⟨g, k, none⟩ ((cs.toList.drop k).take n).length).run P w = .ok ((cs.toList.drop k).take n).toArray w :=
    run_loadCells_list (P := P) w ⟨g, k, none⟩ ((cs.toList.drop k).take n) (fun j v hv => by
      have hadd : (⟨g, k, none⟩ : Addr).add j = ⟨g, k + j, none⟩ := by unfold Addr.add; split <;> simp_all
      rw [hadd, cell_of_row w g (k + j) cs t (0, 0) hg]
      rw [List.getElem?_take] at hv
      split at hv
      · simpa using hv
      · cases hv)
  cases hq : P.info? ty with
  | none => simp [hq] at hi
  | some i =>
    have hs : i.size = n := by simpa [hq] using hi
    have hagg : (isAgg ty).run P w = .ok true w := by
      unfold isAgg
      rw [Sem.run_bind, run_underlying hu w]
      cases d <;> simp_all
    rw [hlen] at hl
    simp [loadVar, Sem.run_bind, hagg, sizeOf, typeInfo, hq, hs, hl]
theorem wpList_load_at {P : Program} {ops : Array Oper} {rest : List Oper} {o : Oper} {a : Act} {w : World} {Q : Exit → Act → World → Prop} (hgd : o.guard = none) (ty : TypeId) (x : Operand) (ho : o.op = .load ty x)
    {g k : Nat} {t : TypeId} {cs : Array Value} (hB : Blk w g t cs) (n : Nat) (v : Value) (hx : a.eval x = .pointer (some ⟨g, k, none⟩)) (d : TypeDesc)
    (hu : P.underlying ty = some d) (hd : (match d with | .struct _ | .array _ _ => true | _ => false) = true) (hi : (P.info? ty).map (·.size) = some n) (hn : k + n ≤ cs.size) (hv : Value.agg ((cs.toList.drop k).take n).toArray = v)
    (h : wpList P ops Q rest (a.put o.dst v) w) : wpList P ops Q (o :: rest) a w :=
  wpList_plain hgd fun _ hK => by
    subst hv
    unfold Oper.wp execOp
    simp only [ho, hx, Instr.loadAt, Instr.sureAddr, Sem.run_bind, Sem.run_pure, Result.andThen_ok, run_loadVar_at w g k t ty cs n d hB hn hu hd hi]
    exact hK _ _ h
/-- The same of an operation that stands under a guard that holds. -/
theorem wpList_wanted {P : Program} {ops : Array Oper} {rest : List Oper} {o : Oper} {a : Act} {w : World} {Q : Exit → Act → World → Prop} (hw : Region.wanted o (yielded ops a.tmps) = true)
    (h : ∀ K : Act → World → Prop, (∀ a w, wpList P ops Q rest a w → K a w) → o.wp P a w K Q) : wpList P ops Q (o :: rest) a w :=
  wpList_step fun K hK => by rw [if_pos hw]; exact h K hK
theorem wpList_load_g {P : Program} {ops : Array Oper} {rest : List Oper} {o : Oper} {a : Act} {w : World} {Q : Exit → Act → World → Prop} (hw : Region.wanted o (yielded ops a.tmps) = true) (ty : TypeId) (x : Operand) (ho : o.op = .load ty x)
    {g k : Nat} {t : TypeId} {cs : Array Value} (hB : Blk w g t cs) (n : Nat) (v : Value) (hx : a.eval x = .pointer (some ⟨g, k, none⟩)) (d : TypeDesc)
    (hu : P.underlying ty = some d) (hd : (match d with | .struct _ | .array _ _ => true | _ => false) = true) (hi : (P.info? ty).map (·.size) = some n) (hn : k + n ≤ cs.size) (hv : Value.agg ((cs.toList.drop k).take n).toArray = v)
    (h : wpList P ops Q rest (a.put o.dst v) w) : wpList P ops Q (o :: rest) a w :=
  wpList_wanted hw fun _ hK => by
    subst hv
    unfold Oper.wp execOp
    simp only [ho, hx, Instr.loadAt, Instr.sureAddr, Sem.run_bind, Sem.run_pure, Result.andThen_ok, run_loadVar_at w g k t ty cs n d hB hn hu hd hi]
    exact hK _ _ h
end Go.Proofs.Ytflgnlpippjhcaa
