/- A set of numbers that the call keeps in a map[int]bool, as an Own. -/
import Derived.Test.YtkgphbjneaagoaaDoorMu
import Derived.Test.YtkgphbjneaagoaaDoorProg
import Derived.Maps.Own
import Derived.Maps.OwnOps
import Derived.Maps.Views
set_option linter.unusedVariables false
set_option maxRecDepth 100000
namespace Go.Proofs.YtkgphbjneaagoaaDoor
open Go.RowKit Go.Sort Go.Maps

theorem int_law : Keyed Tryd.prog 3 := int_keyed Tryd.underlying3
/-- The map's datum: these numbers are in. -/
def idsD (ids : List Int) : DataW Unit := setOf (.lit (.bool true)) (ids.map fun i => Lit.int .i64 i)
theorem idsD_snoc (ids : List Int) (i : Int) : idsD (ids ++ [i]) = (idsD ids).put (.int .i64 i) (.lit (.bool true)) := by
  unfold idsD
  rw [List.map_append]
  exact setOf_snoc _ _ _
theorem isMap_fold (u : DataW Unit) : ∀ (xs : List Lit) (m : DataW Unit), IsMap m → IsMap (xs.foldl (fun m x => m.put x u) m)
  | [], m, h => h
  | x :: r, m, h => isMap_fold u r _ (h.put x u)
theorem isMap_ids (ids : List Int) : IsMap (idsD ids) := isMap_fold _ _ _ isMap_empty
theorem ids_key (i : Int) : WideAt.IsKeyLit (.int .i64 i) := trivial
theorem snoc_ind' {α : Type} {P : List α → Prop} (h0 : P []) (h1 : ∀ l a, P l → P (l ++ [a])) : ∀ l, P l := by
  have key : ∀ n, ∀ l : List α, l.length = n → P l := by
    intro n
    induction n with
    | zero => intro l hl; rw [List.eq_nil_of_length_eq_zero hl]; exact h0
    | succ n ih =>
      intro l hl
      rcases List.eq_nil_or_concat l with rfl | ⟨k, a, rfl⟩
      · simp at hl
      · rw [List.concat_eq_append] at hl ⊢
        exact h1 k a (ih k (by simpa using hl))
  exact fun l => key l.length l rfl
theorem ids_at (i : Int) : ∀ ids : List Int, (idsD ids).atKey (.int .i64 i) (.lit (.bool false)) = .lit (.bool (decide (i ∈ ids))) := by
  refine snoc_ind' (by rfl) (fun ids j ih => ?_)
  rw [idsD_snoc]
  by_cases e : i = j
  · subst e
    rw [atKey_put_same (isMap_ids ids) (ids_key i)]
    simp
  · rw [atKey_put_other (by intro h; injection h with _ h; exact e h), ih]
    simp [e]
/-- A map of these numbers, in a block of its own. -/
def Own.ids (b n : Nat) (ids : List Int) : Own where
  bl k := k = b
  ok W := W.ownsMap Tryd.prog 3 (plainElem Tryd.prog 4) b n (idsD ids)
  lt W h k hk := by subst hk; exact h.lt
  keep W W' hk h := by
    obtain ⟨es, clock, hb, F, hs, hD⟩ := h
    exact ⟨es, clock, (hk b rfl).trans hb, F, hs, hD⟩
section
variable {ops : Array Oper} {rest : List Oper} {o : Oper} {a : Act} {Q : Exit → Act → World → Prop} {w W : World} {ex : Nat → Prop} {l : List Own}
theorem ids_zero (w : World) : (zeroValue 4).run Tryd.prog w = .ok (.bool false) w := by kernel_rfl
theorem bool_inv {v : Value} {z : DataW Unit × List MemPlace} (h : plainElem Tryd.prog 4 v = some z) : ∃ b, v = .bool b ∧ z = (.lit (.bool b), []) := by
  unfold plainElem at h
  rw [Tryd.underlying4] at h
  cases v <;> simp at h
  exact ⟨_, rfl, h.symm⟩
/-- make(map[int]bool). -/
theorem wpList_makeIds (h : Ms w ex l W) (hg : o.guard = none) (dst : Option Tmp) (hdst : o.dst = dst) (hrun : (execOp a.eval o).run Tryd.prog W = .ok (.value (.map (some W.heap.size))) (W.alloc (.map #[] 0)))
    (hK : ∀ b W', Ms w ex (l ++ [.ids b 0 []]) W' → wpList Tryd.prog ops Q rest (a.put dst (.map (some b))) W') : wpList Tryd.prog ops Q (o :: rest) a W :=
  Go.Great.wpList_allocTo hg dst hdst _ _ hrun (hK W.heap.size _ (h.add (o := .ids W.heap.size 0 []) ((Below.refl _ _).alloc (Nat.le_refl _) _) (World.ownsMap_made _ _ _ _) (fun k hk => by have : k = W.heap.size := hk; omega)))
/-- m[i]. -/
theorem wpList_lookupIds (h : Ms w ex l W) (j : Nat) {b n : Nat} {ids : List Int} (hj : l[j]? = some (.ids b n ids)) (hw : Region.wanted o (yielded ops a.tmps) = true) (m x : Operand) (t : TypeId) (ht : Tryd.prog.underlying t = some (.map 3 4)) (hop : o.op = Op.lookup t m x false)
    (i : Int) (hm : a.eval m = .map (some b)) (hx : a.eval x = .int .i64 i) (hi : (Lit.int .i64 i).wf = true) (r : Bool) (hr : decide (i ∈ ids) = r)
    (hK : wpList Tryd.prog ops Q rest (a.put o.dst (.bool r)) W) : wpList Tryd.prog ops Q (o :: rest) a W :=
  wpList_wanted hw fun K' hK' => by
    have hown : W.ownsMap Tryd.prog 3 (plainElem Tryd.prog 4) b n (idsD ids) := h.ok j _ hj
    obtain ⟨v, ps, hrun, hv⟩ := hown.lookup int_law ht (ids_zero W) (plainElem_bool Tryd.underlying4 false) (keyOf_int_mk Tryd.underlying3 hi)
    obtain ⟨c, rfl, hz⟩ := bool_inv hv
    rw [ids_at, hr] at hz
    simp only [Prod.mk.injEq] at hz
    obtain ⟨hz, _⟩ := hz
    have e : r = c := by injection hz with hz; injection hz
    subst e
    unfold Oper.wp
    simp [execOp, hop, hm, hx, hrun, Result.andThen]
    exact hK' _ _ hK
/-- m[i] = true. -/
theorem wpList_putIds (h : Ms w ex l W) (j : Nat) {b n : Nat} {ids : List Int} (hj : l[j]? = some (.ids b n ids)) (hg : o.guard = none) (m x v : Operand) (t : TypeId) (ht : Tryd.prog.underlying t = some (.map 3 4)) (hop : o.op = Op.mapUpdate t m x v)
    (i : Int) (hm : a.eval m = .map (some b)) (hx : a.eval x = .int .i64 i) (hv : a.eval v = .bool true) (hi : (Lit.int .i64 i).wf = true) (hn : n < maxLen) (ids' : List Int) (hids : ids ++ [i] = ids')
    (hK : ∀ W', Ms w ex (l.set j (.ids b (n + 1) ids')) W' → wpList Tryd.prog ops Q rest (a.put o.dst undef) W') : wpList Tryd.prog ops Q (o :: rest) a W := by
  subst hids
  have hown : W.ownsMap Tryd.prog 3 (plainElem Tryd.prog 4) b n (idsD ids) := h.ok j _ hj
  refine wpList_mapUpdate_own W hg m x v t hop 3 4 int_law ht (plainElem Tryd.prog 4) b n (idsD ids) hm hown hn _ _ _ hx hv (keyOf_int_mk Tryd.underlying3 hi) _ _ (plainElem_bool Tryd.underlying4 true) (fun W' hW hgr => hK W' ?_)
  refine h.mut j hj ⟨hgr.os, hgr.tape, hgr.output, hgr.size, fun k hk hne => hgr.block k hk (fun e => hne (show k = b from Option.some.inj e))⟩ ?_ (fun k hk => .inl hk)
  show W'.ownsMap _ _ _ _ _ _
  rw [idsD_snoc]
  exact hW
end
end Go.Proofs.YtkgphbjneaagoaaDoor
