/- What every walk over Ms takes besides: arms that fire where they fit alone; rows that grow; what a callee makes; loads off cells. -/
import Derived.Test.YtflgnlpippjhcaaMs
import Derived.Test.YtflgnlpippjhcaaEq
set_option linter.unusedVariables false
namespace Go.Proofs.Ytflgnlpippjhcaa
open Go.RowKit Go.Sort

/-- Only at a store, a load, .. without a guard. -/
theorem atStore {P : Program} {ops : Array Oper} {Q : Exit → Act → World → Prop} {dst : Option Tmp} {t' : TypeId} {ty : TypeId} {x y : Operand} {pos : String} {after : Array Edge} {rest : List Oper} {a : Act} {W : World}
    (h : wpList P ops Q ({ dst := dst, op := .store ty x y, type := t', pos := pos, after := after, guard := none } :: rest) a W) : wpList P ops Q ({ dst := dst, op := .store ty x y, type := t', pos := pos, after := after, guard := none } :: rest) a W := h
theorem atLoad {P : Program} {ops : Array Oper} {Q : Exit → Act → World → Prop} {dst : Option Tmp} {t' : TypeId} {ty : TypeId} {x : Operand} {pos : String} {after : Array Edge} {rest : List Oper} {a : Act} {W : World}
    (h : wpList P ops Q ({ dst := dst, op := .load ty x, type := t', pos := pos, after := after, guard := none } :: rest) a W) : wpList P ops Q ({ dst := dst, op := .load ty x, type := t', pos := pos, after := after, guard := none } :: rest) a W := h
theorem atAlloc {P : Program} {ops : Array Oper} {Q : Exit → Act → World → Prop} {dst : Option Tmp} {t' : TypeId} {ty : TypeId} {pos : String} {after : Array Edge} {rest : List Oper} {a : Act} {W : World}
    (h : wpList P ops Q ({ dst := dst, op := .alloc ty, type := t', pos := pos, after := after, guard := none } :: rest) a W) : wpList P ops Q ({ dst := dst, op := .alloc ty, type := t', pos := pos, after := after, guard := none } :: rest) a W := h
theorem atBox {P : Program} {ops : Array Oper} {Q : Exit → Act → World → Prop} {dst : Option Tmp} {t' : TypeId} {ty : TypeId} {x : Operand} {pos : String} {after : Array Edge} {rest : List Oper} {a : Act} {W : World}
    (h : wpList P ops Q ({ dst := dst, op := .box ty x, type := t', pos := pos, after := after, guard := none } :: rest) a W) : wpList P ops Q ({ dst := dst, op := .box ty x, type := t', pos := pos, after := after, guard := none } :: rest) a W := h
/-- Three results: the second in a block, the others in slots. -/
theorem post_tmp_cell_tmp {P : Program} {fn : Func} {R : Ending → World → Prop} {a : Act} {w : World} {p g u q : Nat} {ty t : TypeId} {cs : Array Value} {d : TypeDesc} {x y : Value} (h : fn.results = #[.tmp q, .cell p ty, .tmp u])
    (hp : a.tmps.getD p undef = .pointer (some ⟨g, 0, none⟩)) (hu' : a.tmps.getD u undef = x) (hq' : a.tmps.getD q undef = y) (hB : Blk w g t cs) (hu : P.underlying ty = some d) (hd : (match d with | .struct _ | .array _ _ => true | _ => false) = true)
    (hi : (P.info? ty).map (·.size) = some cs.size) (hdf : a.defers = []) (hR : R (.returned (.tuple #[y, .agg cs, x])) w) : bodyPost P fn R .ret a w := by
  have hp' : a.tmps[p]?.getD undef = .pointer (some ⟨g, 0, none⟩) := by simpa using hp
  have hx' : a.tmps[u]?.getD undef = x := by simpa using hu'
  have hy' : a.tmps[q]?.getD undef = y := by simpa using hq'
  exact bodyPost_ret (v := .tuple #[y, .agg cs, x]) (by simp [results, h, hp', hx', hy', asAddr, run_loadVar_row w g t ty cs (0, 0) d hB hu hd hi]) hdf hR
/-- Only at a list of operations. -/
theorem onList {P : Program} {ops : Array Oper} {Q : Exit → Act → World → Prop} {l : List Oper} {a : Act} {W : World} (h : wpList P ops Q l a W) : wpList P ops Q l a W := h
/-- A row's value is a slice of its length. -/
theorem row_slice {w : World} {base size n : Nat} {e : TypeId} {v : Value} {xs : List Value} (h : w.ownsRow base e size v n xs) : ∃ A c, v = .slice A n c := by
  rcases h.2 with ⟨rfl, rfl⟩ | ⟨g, cap, cur, rfl, _⟩
  · exact ⟨none, 0, rfl⟩
  · exact ⟨_, cap, rfl⟩
section
variable {P : Program} {ops : Array Oper} {rest : List Oper} {o : Oper} {a : Act} {Q : Exit → Act → World → Prop} {w W : World} {ex : Nat → Prop} {l : List Own}
/-- append(s, x...): x a block that is known whole; s a row that is owned. -/
theorem append_row (h : Ms w ex l W) (i j : Nat) (hgd : o.guard = none) (s x : Operand) (t e : TypeId) (size bytes : Nat) (z : Value) (ho : o.op = .call { callee := .builtin .append, args := #[s, x], argTypes := #[t, t] })
    (hu : P.underlying t = some (.slice e)) (hinfo : (P.info? e).map (fun i => (i.zero, i.size, i.bytes)) = some (some z, size, bytes)) (hzs : z.cells.size = size) (hsz : 0 < size)
    (v : Value) (n m : Nat) (xs ys : List Value) (g : Nat) (u : TypeId) (cs : Array Value) (hs : a.eval s = v) (hrow : l[i]? = some (.row e size v n xs)) (hx : a.eval x = .slice (some ⟨g, 0, none⟩) m m)
    (hblk : l[j]? = some (.blk g u cs)) (hcs : cs.toList = ys) (hys : ys.length = m * size) (h1 : ys.all (·.oneCell') = true) (hlen : (n + m) * bytes ≤ 140737488355328) (hmax : n + m ≤ maxLen) (n' : Nat) (zs : List Value) (hn' : n + m = n') (hzs' : xs ++ ys = zs)
    (hK : ∀ A' c' W', Ms w ex (l.set i (.row e size (.slice A' n' c') n' zs)) W' → wpList P ops Q rest (a.put o.dst (.slice A' n' c')) W') : wpList P ops Q (o :: rest) a W := by
  subst hn' hzs'
  obtain ⟨i0, hi, hzz⟩ := Option.map_eq_some_iff.1 hinfo
  simp only [Prod.mk.injEq] at hzz
  obtain ⟨hz0, hz1, hz2⟩ := hzz
  have hown := h.own i hrow
  have hB := h.at_ j hblk
  refine wpList_plain hgd fun K hK' => ?_
  obtain ⟨v', w', hr, h2, h3, _, h5⟩ := run_append_own_at (P := P) W 0 t o.type e i0 z size bytes hu hi hz0 hz1 hz2 hzs hsz v n xs hown ⟨g, 0, none⟩ m m ys
    hys (fun k u hu => by rw [add_plain, hB.cell, ← hu, ← hcs]; simp) (fun u hu => (List.all_eq_true.1 h1) u hu) hmax hlen (Nat.zero_le _)
  unfold Oper.wp execOp
  simp only [ho, resolve, invoke, builtin, Sem.run_bind, Sem.run_pure, Result.andThen_ok, List.map_toArray, List.map_cons, List.map_nil, hs, hx, hr]
  obtain ⟨A', c', rfl⟩ := row_slice h2
  refine hK' _ _ (hK A' c' w' (h.grown i hrow h2 h3 ?_))
  rcases h5 with h5 | h5
  · exact .inl h5
  · exact .inr (.inl h5)
end
theorem Ms.newRow {w W : World} {ex : Nat → Prop} {l : List Own} {W' : World} {g n size : Nat} {t : TypeId} {cs : Array Value} (h : Ms w ex l W) (hb : Below W.heap.size W W') (hB : Blk W' g t cs) (hg : W.heap.size ≤ g) (hs : cs.size = n * size) (hn : n ≤ maxLen) : Ms w ex (l ++ [.row t size (.slice (some ⟨g, 0, none⟩) n n) n cs.toList]) W' :=
  h.add hb (o := .row t size (.slice (some ⟨g, 0, none⟩) n n) n cs.toList) ⟨by simpa using hs, .inr ⟨g, n, cs, rfl, Nat.zero_le _, hB, Nat.le_refl _, hn, hs, List.take_of_length_le (by rw [Array.length_toList, hs]; exact Nat.le_refl _)⟩⟩
    (fun k hk => by have h1 : some g = some k := hk; cases h1; exact hg)

section
variable {w W W' : World} {ex : Nat → Prop} {l : List Own}
/-- A callee has made something of its own. -/
theorem Ms.made {o : Own} (h : Ms w ex l W) (hM : Ms W noB [o] W') : Ms w ex (l ++ [o]) W' :=
  h.add hM.below (hM.ok 0 o rfl) (fun k hk => (hM.lo 0 o rfl k hk).elim id False.elim)
end
theorem add_at (g k j : Nat) : (⟨g, k, none⟩ : Addr).add j = ⟨g, k + j, none⟩ := by unfold Addr.add; split <;> simp_all
theorem wpList_load_ad {P : Program} {ops : Array Oper} {rest : List Oper} {o : Oper} {a : Act} {w : World} {Q : Exit → Act → World → Prop} (hw : Region.wanted o (yielded ops a.tmps) = true) (ty : TypeId) (x : Operand) (ho : o.op = .load ty x)
    (ad : Addr) (vs : List Value) (hc : ∀ j v, vs[j]? = some v → w.cell? (ad.add j) = some v) (hx : a.eval x = .pointer (some ad)) (d : TypeDesc) (v : Value) (hv : Value.agg vs.toArray = v)
    (hu : P.underlying ty = some d) (hd : (match d with | .struct _ | .array _ _ => true | _ => false) = true) (hi : (P.info? ty).map (·.size) = some vs.length)
    (h : wpList P ops Q rest (a.put o.dst v) w) : wpList P ops Q (o :: rest) a w :=
  wpList_wanted hw fun _ hK => by
    subst hv
    have hl : (loadCells ad vs.length).run P w = .ok vs.toArray w := run_loadCells_list (P := P) w ad vs hc
    have hr : (loadVar ty ad).run P w = .ok (.agg vs.toArray) w := by
      cases hq : P.info? ty with
      | none => simp [hq] at hi
      | some i =>
        have hs : i.size = vs.length := by simpa [hq] using hi
        have hagg : (isAgg ty).run P w = .ok true w := by
          unfold isAgg
          rw [Sem.run_bind, run_underlying hu w]
          cases d <;> simp_all
        simp [loadVar, Sem.run_bind, hagg, sizeOf, typeInfo, hq, hs, hl]
    unfold Oper.wp execOp
    simp only [ho, hx, Instr.loadAt, Instr.sureAddr, Sem.run_bind, Sem.run_pure, Result.andThen_ok, hr]
    exact hK _ _ h
/-- A load of an aggregate in a region that draws its order, off cells that are known. -/
theorem wpQuiet_load_ad {P : Program} {ops : Array Oper} {W : World} {Q : Act → Prop} {rest : List Oper} {o : Oper} {a : Act} (hw : Region.wanted o (yielded ops a.tmps) = true) (ty : TypeId) (x : Operand) (ho : o.op = .load ty x)
    (ad : Addr) (vs : List Value) (hpos : vs ≠ []) (hc : ∀ j v, vs[j]? = some v → W.cell? (ad.add j) = some v) (hx : a.eval x = .pointer (some ad)) (d : TypeDesc) (v : Value) (hv : Value.agg vs.toArray = v)
    (hu : P.underlying ty = some d) (hd : (match d with | .struct _ | .array _ _ => true | _ => false) = true) (hi : (P.info? ty).map (·.size) = some vs.length)
    (h : wpQuiet P ops (laidOn W) Q rest (a.put o.dst v)) : wpQuiet P ops (laidOn W) Q (o :: rest) a :=
  wpQuiet_step fun K hK => by
    subst hv
    rw [if_pos hw]
    refine ⟨_, fun w hw => ?_, hK _ h⟩
    obtain ⟨p, rfl⟩ := hw
    have hc' : ∀ j v, vs[j]? = some v → (grow (redrawn W p.d) p.os).cell? (ad.add j) = some v := fun j v hj => ((below_regrown W p.d p.os).cell (block_lt_of_cell (hc j v hj))).trans (hc j v hj)
    have hl : (loadCells ad vs.length).run P (grow (redrawn W p.d) p.os) = .ok vs.toArray (grow (redrawn W p.d) p.os) := run_loadCells_list (P := P) _ ad vs hc'
    have hr : (loadVar ty ad).run P (grow (redrawn W p.d) p.os) = .ok (.agg vs.toArray) (grow (redrawn W p.d) p.os) := by
      cases hq : P.info? ty with
      | none => simp [hq] at hi
      | some i =>
        have hs : i.size = vs.length := by simpa [hq] using hi
        have hagg : (isAgg ty).run P (grow (redrawn W p.d) p.os) = .ok true (grow (redrawn W p.d) p.os) := by
          unfold isAgg
          rw [Sem.run_bind, run_underlying hu _]
          cases d <;> simp_all
        simp [loadVar, Sem.run_bind, hagg, sizeOf, typeInfo, hq, hs, hl]
    unfold Oper.quietAt execOp
    simp only [ho, hx, Instr.loadAt, Instr.sureAddr, Sem.run_bind, Sem.run_pure, Result.andThen_ok, hr]
    exact ⟨rfl, rfl⟩
section
variable {P : Program} {ops : Array Oper} {rest : List Oper} {o : Oper} {a : Act} {Q : Exit → Act → World → Prop} {w W : World} {ex : Nat → Prop} {l : List Own}
theorem Ms.nilRowOf (h : Ms w ex l W) (e : TypeId) (size : Nat) : Ms w ex (l ++ [.row e size (.slice none 0 0) 0 []]) W :=
  h.more (o := .row e size (.slice none 0 0) 0 []) (World.ownsRow_nil _ _ _ _) (fun k hk => by simp [Own.row, Value.ownBlock] at hk) (fun i b hi k hk hk2 => by simp [Own.row, Value.ownBlock] at hk2)
/-- append(s, x...): x is read where it lies; s a row that is owned. -/
theorem append_at (h : Ms w ex l W) (i : Nat) (hgd : o.guard = none) (s x : Operand) (t e : TypeId) (size bytes : Nat) (z : Value) (ho : o.op = .call { callee := .builtin .append, args := #[s, x], argTypes := #[t, t] })
    (hu : P.underlying t = some (.slice e)) (hinfo : (P.info? e).map (fun i => (i.zero, i.size, i.bytes)) = some (some z, size, bytes)) (hzs : z.cells.size = size) (hsz : 0 < size)
    (v : Value) (n m mc : Nat) (xs ys : List Value) (ad : Addr) (hs : a.eval s = v) (hrow : l[i]? = some (.row e size v n xs)) (hx : a.eval x = .slice (some ad) m mc)
    (hc : ∀ j u, ys[j]? = some u → W.cell? (ad.add j) = some u) (hys : ys.length = m * size) (h1 : ∀ u ∈ ys, u.oneCell' = true) (hlen : (n + m) * bytes ≤ 140737488355328) (hmax : n + m ≤ maxLen) (n' : Nat) (zs : List Value) (hn' : n + m = n') (hzs' : xs ++ ys = zs)
    (hK : ∀ A' c' W', Ms w ex (l.set i (.row e size (.slice A' n' c') n' zs)) W' → wpList P ops Q rest (a.put o.dst (.slice A' n' c')) W') : wpList P ops Q (o :: rest) a W := by
  subst hn' hzs'
  obtain ⟨i0, hi, hzz⟩ := Option.map_eq_some_iff.1 hinfo
  simp only [Prod.mk.injEq] at hzz
  obtain ⟨hz0, hz1, hz2⟩ := hzz
  have hown := h.own i hrow
  refine wpList_plain hgd fun K hK' => ?_
  obtain ⟨v', w', hr, h2, h3, _, h5⟩ := run_append_own_at (P := P) W 0 t o.type e i0 z size bytes hu hi hz0 hz1 hz2 hzs hsz v n xs hown ad m mc ys hys hc h1 hmax hlen (Nat.zero_le _)
  unfold Oper.wp execOp
  simp only [ho, resolve, invoke, builtin, Sem.run_bind, Sem.run_pure, Result.andThen_ok, List.map_toArray, List.map_cons, List.map_nil, hs, hx, hr]
  obtain ⟨A', c', rfl⟩ := row_slice h2
  refine hK' _ _ (hK A' c' w' (h.grown i hrow h2 h3 ?_))
  rcases h5 with h5 | h5
  · exact .inl h5
  · exact .inr (.inl h5)
end
/-- Several, apart from each other, as one. -/
def Own.all (l : List Own) : Own where
  bl k := ∃ i o, l[i]? = some o ∧ o.bl k
  ok W := (∀ (i : Nat) (o : Own), l[i]? = some o → o.ok W) ∧ ∀ (i j : Nat) (a b : Own), l[i]? = some a → l[j]? = some b → i ≠ j → ∀ k, a.bl k → ¬ b.bl k
  lt W h k hk := by
    obtain ⟨i, o, hi, hb⟩ := hk
    exact o.lt W (h.1 i o hi) k hb
  keep W W' hk h := ⟨fun i o hi => o.keep W W' (fun k hb => hk k ⟨i, o, hi, hb⟩) (h.1 i o hi), h.2⟩
section
variable {w W W' : World} {ex : Nat → Prop} {l : List Own}
theorem Ms.open_ (h : (Own.all l).ok w) : Ms w (Own.all l).bl l w :=
  ⟨h.1, fun i o hi k hk => .inr ⟨i, o, hi, hk⟩, h.2, Turn.refl _ _⟩
theorem Ms.all (h : Ms w ex l W) : Ms w ex [.all l] W := by
  have key : ∀ (i : Nat) (o : Own), [Own.all l][i]? = some o → i = 0 ∧ o = .all l := fun i b hi => by
    cases i with
    | zero => simp at hi; exact ⟨rfl, hi.symm⟩
    | succ i => simp at hi
  refine ⟨fun i o hi => ?_, fun i o hi k hk => ?_, fun i j a b hi hj hij => ?_, h.turn⟩
  · rw [(key i o hi).2]; exact ⟨h.ok, h.apart⟩
  · rw [(key i o hi).2] at hk
    obtain ⟨j, b, hj, hb⟩ := hk
    exact h.lo j b hj k hb
  · rw [(key i a hi).1, (key j b hj).1] at hij; exact absurd rfl hij
theorem Ms.allOf {k : List Own} (h : Ms w ex (l ++ k) W) : Ms w ex [.all l] W := h.cut.all
end
theorem atBuild {P : Program} {ops : Array Oper} {Q : Exit → Act → World → Prop} {dst : Option Tmp} {t' : TypeId} {ty : TypeId} {n : Nat} {xs : Array (Nat × Operand)} {pos : String} {after : Array Edge} {rest : List Oper} {a : Act} {W : World}
    (h : wpList P ops Q ({ dst := dst, op := .buildSlice ty n xs, type := t', pos := pos, after := after, guard := none } :: rest) a W) : wpList P ops Q ({ dst := dst, op := .buildSlice ty n xs, type := t', pos := pos, after := after, guard := none } :: rest) a W := h
end Go.Proofs.Ytflgnlpippjhcaa
