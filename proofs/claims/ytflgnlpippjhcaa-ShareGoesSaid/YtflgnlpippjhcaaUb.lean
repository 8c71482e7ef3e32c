/- Share: a ledger's map in memory, as an Own; the map's operations. -/
import Derived.Test.YtflgnlpippjhcaaMv
import Derived.Test.YtflgnlpippjhcaaProg
import Derived.Test.YtflgnlpippjhcaaU1
import Derived.Maps.Own
import Derived.Maps.OwnOps
import Derived.Maps.OwnSet
import Derived.Maps.RangeWalk
import Derived.StringKeys
import Derived.Sort.KeysCollected
set_option linter.unusedVariables false
set_option maxRecDepth 100000
namespace Go.Proofs.Ytflgnlpippjhcaa
open Go.RowKit Go.Sort Go.Maps

theorem str_law : Keyed Try.prog 9 := string_keyed Try.underlying9
abbrev str (n : Nm) : Value := .string ⟨n.toArray⟩
theorem str_key {n : Nm} (h : n.length ≤ maxLen) : keyOf Try.prog 9 (str n) = some (.string n) := by
  have := Go.WideMaps.keyOf_string_mk (P := Try.prog) Try.underlying9 (s := ⟨n.toArray⟩) (by simpa [ByteArray.size] using h)
  rw [this]
abbrev acA (a : Ac) : Array Value := #[.int .i64 a.has, .int .i64 a.at_]
abbrev acV (a : Ac) : Value := .agg (acA a)
/-- How an account reads. -/
def accE : Value → Option (DataW Unit × List MemPlace)
  | .agg cs => match cs.toList with
    | [.int .i64 h, .int .i64 t] => some (acD ⟨h, t⟩, [])
    | _ => none
  | _ => none
theorem accE_mk (a : Ac) : accE (acV a) = some (acD a, []) := rfl
theorem accE_inv {v : Value} {z : DataW Unit × List MemPlace} (h : accE v = some z) : ∃ a, v = acV a ∧ z = (acD a, []) := by
  unfold accE at h
  split at h
  · rename_i cs
    split at h
    · rename_i hh tt e
      cases h
      refine ⟨⟨hh, tt⟩, ?_, rfl⟩
      show Value.agg cs = _
      have : cs = #[.int .i64 hh, .int .i64 tt] := by
        rw [← Array.toList_inj]
        exact e
      rw [this]
    · cases h
  · cases h
theorem acD_inj {a b : Ac} (h : acD a = acD b) : a = b := by
  cases a; cases b
  simp [acD] at h
  obtain ⟨h1, h2⟩ := h
  subst h1; subst h2
  rfl
theorem own_tight {P : Program} {k : TypeId} {R : Value → Option (DataW Unit × List MemPlace)} {W : World} {b n : Nat} {D : DataW Unit} (h : W.ownsMap P k R b n D) : W.ownsMap P k R b (Maps.size D) D := by
  obtain ⟨es, clock, hb, F, hs, hD⟩ := h
  refine ⟨es, clock, hb, F, ?_, hD⟩
  rw [hD]
  exact Nat.le_of_eq (by simp [Maps.size, length_sorted])
/-- The map of a ledger. -/
def Own.mp (b : Nat) (L : Led) : Own where
  bl k := k = b
  ok W := W.ownsMap Try.prog 9 accE b L.length (ledD L)
  lt W h k hk := by subst hk; exact h.lt
  keep W W' hk h := by
    obtain ⟨es, clock, hb, F, hs, hD⟩ := h
    exact ⟨es, clock, (hk b rfl).trans hb, F, hs, hD⟩
/-- The map of a ledger that is only read: the very object. -/
def Own.mx (b : Nat) (ob : Obj) (L : Led) : Own where
  bl k := k = b
  ok W := W.heap[b]? = some ob ∧ W.ownsMap Try.prog 9 accE b L.length (ledD L)
  lt W h k hk := by subst hk; exact h.2.lt
  keep W W' hk h := by
    obtain ⟨h0, es, clock, hb, F, hs, hD⟩ := h
    exact ⟨(hk b rfl).trans h0, es, clock, (hk b rfl).trans hb, F, hs, hD⟩
/-- An iterator over the map of a ledger, and the map. -/
def Own.rg (b r : Nat) (ob : Obj) (L : Led) (left : Lit → Bool) (cnt : Nat) : Own where
  bl k := k = b ∨ k = r
  ok W := W.heap[b]? = some ob ∧ W.ranges Try.prog 9 accE b r L.length (ledD L) left cnt
  lt W h k hk := by
    rcases hk with rfl | rfl
    · exact h.2.owns.lt
    · obtain ⟨es, clock, since, seen, c0, _, _, _, _, hr, _⟩ := h.2
      exact (Array.getElem?_eq_some_iff.1 hr).1
  keep W W' hk h := by
    obtain ⟨h0, es, clock, since, seen, c0, hb, F, hs, hD, hr, rest⟩ := h
    exact ⟨(hk b (.inl rfl)).trans h0, es, clock, since, seen, c0, (hk b (.inl rfl)).trans hb, F, hs, hD, (hk r (.inr rfl)).trans hr, rest⟩
abbrev lgA (half : Int) (b : Nat) : Array Value := #[.int .i64 half, .map (some b)]
abbrev lgT : TypeId := 56
/-- A ledger as an object. -/
abbrev ldO (g b : Nat) (half : Int) (L : Led) : List Own := [.blk g lgT (lgA half b), .mp b L]
abbrev ldP (g b : Nat) (half : Int) (L : Led) : Own := .all (ldO g b half L)
/-- A ledger that is read. -/
structure LdR (w : World) (g b : Nat) (half : Int) (L : Led) : Prop where
  blk : Blk w g lgT (lgA half b)
  mp : w.ownsMap Try.prog 9 accE b L.length (ledD L)
  ok : LOk half L
abbrev exR (g b : Nat) : Nat → Prop := fun k => k = g ∨ k = b
section
variable {ops : Array Oper} {rest : List Oper} {o : Oper} {a : Act} {Q : Exit → Act → World → Prop} {w W : World} {ex : Nat → Prop} {l : List Own}
theorem LdR.below {W' : World} {g b : Nat} {half : Int} {L : Led} (h : LdR w g b half L) (hb : Below w.heap.size w W') : LdR W' g b half L :=
  ⟨h.blk.after hb, (Own.mp b L).keep w W' (fun k hk => hb.block k ((Own.mp b L).lt w h.mp k hk)) h.mp, h.ok⟩
theorem LdR.ne {g b : Nat} {half : Int} {L : Led} (h : LdR w g b half L) : g ≠ b := by
  intro e
  subst e
  obtain ⟨es, clock, hb, _⟩ := h.mp
  have h1 : w.heap[g]? = some (.cells (lgA half g) lgT) := h.blk
  rw [h1] at hb
  cases hb
theorem LdR.start {g b : Nat} {half : Int} {L : Led} (h : LdR w g b half L) : ∃ ob, w.heap[b]? = some ob ∧ Ms w (exR g b) [.blk g lgT (lgA half b), .mx b ob L] w := by
  obtain ⟨es, clock, hb, _⟩ := id h.mp
  refine ⟨.map es clock, hb, ?_⟩
  exact (Ms.start2 (a := .blk g lgT (lgA half b)) (b := .mx b (.map es clock) L) h.blk ⟨hb, h.mp⟩ (fun k h1 h2 => h.ne ((show k = g from h1).symm.trans h2)))
theorem Ms.stillR {g b : Nat} {half : Int} {L : Led} {ob : Obj} {K : List Own} (h : Ms w (exR g b) (.blk g lgT (lgA half b) :: .mx b ob L :: K) W) (hg : Blk w g lgT (lgA half b)) (hb : w.heap[b]? = some ob) : Below w.heap.size w W := by
  refine ⟨h.turn.os, h.turn.tape, h.turn.output, h.turn.size, fun k hk => ?_⟩
  by_cases e : k = g
  · subst e
    have h1 : Blk W k lgT (lgA half b) := h.ok 0 _ rfl
    exact h1.trans hg.symm
  · by_cases e2 : k = b
    · subst e2
      exact ((h.ok 1 _ rfl).1).trans hb.symm
    · exact h.turn.block k hk (fun h1 => h1.elim e e2)
theorem Ms.ldR {g b : Nat} {half : Int} {L : Led} {ob : Obj} (h : Ms w ex l W) (i j : Nat) (hi : l[i]? = some (.blk g lgT (lgA half b))) (hj : l[j]? = some (.mx b ob L)) (hL : LOk half L) : LdR W g b half L := ⟨h.at_ i hi, (h.ok j _ hj).2, hL⟩
theorem Ms.mpOk (h : Ms w ex l W) (j : Nat) {b : Nat} {L : Led} (hj : l[j]? = some (.mp b L)) : W.ownsMap Try.prog 9 accE b L.length (ledD L) := h.ok j _ hj
theorem Ms.ldM {g b : Nat} {half : Int} {L : Led} (h : Ms w ex l W) (i j : Nat) (hi : l[i]? = some (.blk g lgT (lgA half b))) (hj : l[j]? = some (.mp b L)) (hL : LOk half L) : LdR W g b half L := ⟨h.at_ i hi, h.mpOk j hj, hL⟩
theorem Ms.ldA {g b : Nat} {half : Int} {L : Led} (h : Ms w ex l W) (i : Nat) (hi : l[i]? = some (ldP g b half L)) (hL : LOk half L) : LdR W g b half L := ⟨(h.ok i _ hi).1 0 _ rfl, (h.ok i _ hi).1 1 _ rfl, hL⟩
theorem ac_zero (w : World) : (zeroValue 66).run Try.prog w = .ok (acV ⟨0, 0⟩) w := by kernel_rfl
/-- make(map[string]account). -/
theorem wpList_makeMp (h : Ms w ex l W) (hg : o.guard = none) (dst : Option Tmp) (hdst : o.dst = dst) (hrun : (execOp a.eval o).run Try.prog W = .ok (.value (.map (some W.heap.size))) (W.alloc (.map #[] 0)))
    (hK : ∀ b W', Ms w ex (l ++ [.mp b []]) W' → wpList Try.prog ops Q rest (a.put dst (.map (some b))) W') : wpList Try.prog ops Q (o :: rest) a W :=
  Go.Great.wpList_allocTo hg dst hdst _ _ hrun (hK W.heap.size _ (h.add (o := .mp W.heap.size []) ((Below.refl _ _).alloc (Nat.le_refl _) _) (World.ownsMap_made _ _ _ _) (fun k hk => by have : k = W.heap.size := hk; omega)))
/-- a, there := m[n]. -/
theorem wpList_lookMp {b : Nat} {L : Led} (hown : W.ownsMap Try.prog 9 accE b L.length (ledD L)) (hw : Region.wanted o (yielded ops a.tmps) = true) (m x : Operand) (t : TypeId) (ht : Try.prog.underlying t = some (.map 9 66)) (hop : o.op = Op.lookup t m x true)
    (n : Nm) (hm : a.eval m = .map (some b)) (hx : a.eval x = str n) (hn : n.length ≤ maxLen) (c : Ac) (r : Bool) (hc : acc L n = c) (hr : (look L n).isSome = r)
    (hK : wpList Try.prog ops Q rest (a.put o.dst (.tuple #[acV c, .bool r])) W) : wpList Try.prog ops Q (o :: rest) a W :=
  wpList_wanted hw fun K' hK' => by
    obtain ⟨v, ps, hrun, hv⟩ := hown.look_ok str_law ht (ac_zero W) (accE_mk ⟨0, 0⟩) (str_key hn)
    obtain ⟨c2, rfl, hz⟩ := accE_inv hv
    rw [led_at] at hz
    rw [led_has, hr] at hrun
    simp only [Prod.mk.injEq] at hz
    have e : c2 = c := by
      subst hc
      apply acD_inj
      rw [← hz.1]
      unfold acc
      cases look L n <;> rfl
    subst e
    unfold Oper.wp
    simp [execOp, hop, hm, hx, hrun, Result.andThen]
    exact hK' _ _ hK
/-- m[n]. -/
theorem wpList_look1Mp {b : Nat} {L : Led} (hown : W.ownsMap Try.prog 9 accE b L.length (ledD L)) (hw : Region.wanted o (yielded ops a.tmps) = true) (m x : Operand) (t : TypeId) (ht : Try.prog.underlying t = some (.map 9 66)) (hop : o.op = Op.lookup t m x false)
    (n : Nm) (hm : a.eval m = .map (some b)) (hx : a.eval x = str n) (hn : n.length ≤ maxLen) (c : Ac) (hc : acc L n = c)
    (hK : wpList Try.prog ops Q rest (a.put o.dst (acV c)) W) : wpList Try.prog ops Q (o :: rest) a W :=
  wpList_wanted hw fun K' hK' => by
    obtain ⟨v, ps, hrun, hv⟩ := hown.lookup str_law ht (ac_zero W) (accE_mk ⟨0, 0⟩) (str_key hn)
    obtain ⟨c2, rfl, hz⟩ := accE_inv hv
    rw [led_at] at hz
    simp only [Prod.mk.injEq] at hz
    have e : c2 = c := by
      subst hc
      apply acD_inj
      rw [← hz.1]
      unfold acc
      cases look L n <;> rfl
    subst e
    unfold Oper.wp
    simp [execOp, hop, hm, hx, hrun, Result.andThen]
    exact hK' _ _ hK
/-- m[n] = c. -/
theorem wpList_putMp (h : Ms w ex l W) (j : Nat) {b : Nat} {L : Led} (hj : l[j]? = some (.mp b L)) (hg : o.guard = none) (m x v : Operand) (t : TypeId) (ht : Try.prog.underlying t = some (.map 9 66)) (hop : o.op = Op.mapUpdate t m x v)
    (n : Nm) (c : Ac) (hm : a.eval m = .map (some b)) (hx : a.eval x = str n) (hv : a.eval v = acV c) (hn : n.length ≤ maxLen) (hL : Ris L) (hlen : L.length < maxLen) (L' : Led) (hL' : put L n c = L')
    (hK : ∀ W', Ms w ex (l.set j (.mp b L')) W' → wpList Try.prog ops Q rest (a.put o.dst undef) W') : wpList Try.prog ops Q (o :: rest) a W := by
  subst hL'
  refine wpList_mapUpdate_own W hg m x v t hop 9 66 str_law ht accE b L.length (ledD L) hm (h.mpOk j hj) hlen _ _ _ hx hv (str_key hn) _ _ (accE_mk c) (fun W' hW hgr => hK W' ?_)
  refine h.mut j hj ⟨hgr.os, hgr.tape, hgr.output, hgr.size, fun k hk hne => hgr.block k hk (fun e => hne (show k = b from Option.some.inj e))⟩ ?_ (fun k hk => .inl hk)
  show W'.ownsMap _ _ _ _ _ _
  rw [led_put hL] at hW
  have := own_tight hW
  rwa [led_size] at this
/-- len(m). -/
theorem wpList_lenMp {b : Nat} {L : Led} (hown : W.ownsMap Try.prog 9 accE b L.length (ledD L)) (hw : Region.wanted o (yielded ops a.tmps) = true) (m : Operand) (t : TypeId) (ht : Try.prog.underlying t = some (.map 9 66)) (hop : o.op = Op.call { callee := Callee.builtin Builtin.len, args := #[m], argTypes := #[t] })
    (hm : a.eval m = .map (some b)) (q : Nat) (hq : L.length = q)
    (hK : wpList Try.prog ops Q rest (a.put o.dst (.int .i64 (q : Nat))) W) : wpList Try.prog ops Q (o :: rest) a W :=
  wpList_wanted hw fun K' hK' => by
    have hlen := hown.len ht o.type
    rw [led_size, hq] at hlen
    unfold Oper.wp
    simp [execOp, hop, resolve, invoke, builtin, hm, hlen, Result.andThen]
    exact hK' _ _ hK
/-! ### ranging over a ledger's map -/
theorem at_look {L : Led} {n : Nm} {c : Ac} (h : ∀ z, (ledD L).atKey (.string n) z = acD c) : look L n = some c := by
  have h1 := h .nil
  rw [led_at] at h1
  cases hl : look L n with
  | none => rw [hl] at h1; cases h1
  | some a => rw [hl] at h1; exact congrArg some (acD_inj h1)
theorem wpList_rangeMp (h : Ms w ex l W) (i : Nat) {b : Nat} {ob : Obj} {L : Led} (hi : l[i]? = some (.mx b ob L)) (hg : o.guard = none) (m : Operand) (t : TypeId) (hop : o.op = Op.range t m) (ht : Try.prog.underlying t = some (.map 9 66)) (hm : a.eval m = .map (some b))
    (hK : ∀ r W', Ms w ex (l.set i (.rg b r ob L (Maps.has (ledD L)) L.length)) W' → wpList Try.prog ops Q rest (a.put o.dst (.pointer (some ⟨r, 0, none⟩))) W') : wpList Try.prog ops Q (o :: rest) a W := by
  obtain ⟨h0, hown⟩ := h.ok i _ hi
  refine wpList_range_own W hg m t hop 9 66 str_law ht accE b L.length (ledD L) hm hown (fun W' hr hgr hsz => hK W.heap.size W' ?_)
  rw [led_size] at hr
  refine h.mut i hi ⟨hgr.os, hgr.tape, hgr.output, hgr.size, fun k hk _ => hgr.block k hk (by simp)⟩ ⟨(hgr.block b (hown.lt) (by simp)).trans h0, hr⟩ (fun k hk => ?_)
  rcases hk with rfl | rfl
  · exact .inl rfl
  · exact .inr (Nat.le_refl _)
theorem wpList_nextMp (h : Ms w ex l W) (i : Nat) {b r : Nat} {ob : Obj} {L : Led} {left : Lit → Bool} {cnt : Nat} (hi : l[i]? = some (.rg b r ob L left cnt)) (hg : o.guard = none) (it : Operand) (hop : o.op = Op.next it false) (hit : a.eval it = .pointer (some ⟨r, 0, none⟩))
    (hDone : (∀ kl, left kl = false) → wpList Try.prog ops Q rest (a.put o.dst (.tuple #[.bool false])) W)
    (hMore : ∀ (n : Nm) (c : Ac) (W' : World) (cnt' : Nat), look L n = some c → left (.string n) = true → cnt' < cnt → n.length ≤ maxLen → Ms w ex (l.set i (.rg b r ob L (fun z => left z && !z.sameKey (.string n)) cnt')) W' →
      (Instr.entry (.pointer (some ⟨r, 0, none⟩))).run Try.prog W' = .ok (.tuple #[str n, acV c]) W' → wpList Try.prog ops Q rest (a.put o.dst (.tuple #[.bool true, str n, acV c])) W') : wpList Try.prog ops Q (o :: rest) a W := by
  obtain ⟨h0, hrg⟩ := h.ok i _ hi
  refine wpList_next_ranges W hg it hop 9 str_law accE (fun n : Nm => str n) (fun c : Ac => acV c) (fun key kl hk => by obtain ⟨x, hx, _⟩ := Maps.keyOf_str Try.underlying9 hk; exact ⟨x, hx⟩) (fun v y hv => by obtain ⟨c, rfl, _⟩ := accE_inv hv; exact ⟨c, rfl⟩)
    b r L.length (ledD L) left cnt hit hrg (fun _ hl => hDone hl) (fun n c kl y W' cnt' hkey hlk hv hat hrg1 hlt hgr hsz hen => ?_)
  obtain ⟨x, ex', rfl, hxl⟩ := Maps.keyOf_str Try.underlying9 hkey
  have e : n = x := by simpa [str] using ex'
  subst e
  have hy : y.1 = acD c := by rw [accE_mk] at hv; cases hv; rfl
  have hne : b ≠ r := by
    intro e
    subst e
    obtain ⟨es, clock, since, seen, c0, hb, _, _, _, hr, _⟩ := hrg
    rw [hb] at hr
    cases hr
  refine hMore n c W' cnt' (at_look fun z => by rw [hat z, hy]) hlk hlt hxl ?_ hen
  refine h.mut i hi ⟨hgr.os, hgr.tape, hgr.output, hgr.size, fun k hk hx => hgr.block k hk (fun e => hx (.inr (Option.some.inj e)))⟩ ⟨(hgr.block b (hrg.owns.lt) (fun e => hne (Option.some.inj e))).trans h0, hrg1⟩ (fun k hk => .inl hk)
theorem Ms.rgEnd (h : Ms w ex l W) (i : Nat) {b r : Nat} {ob : Obj} {L : Led} {left : Lit → Bool} {cnt : Nat} (hi : l[i]? = some (.rg b r ob L left cnt)) : Ms w ex (l.set i (.mx b ob L)) W :=
  h.mut i hi (Turn.refl _ _) ⟨(h.ok i _ hi).1, (h.ok i _ hi).2.owns⟩ (fun k hk => .inl (.inl hk))
end
end Go.Proofs.Ytflgnlpippjhcaa
