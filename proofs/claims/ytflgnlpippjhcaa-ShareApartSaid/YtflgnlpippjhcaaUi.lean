/- Share: maps of numbers by names, as Owns (the plain part turned from XU0 by program). -/
import Derived.Test.YtflgnlpippjhcaaUb
set_option linter.unusedVariables false
set_option maxRecDepth 100000
namespace Go.Proofs.Ytflgnlpippjhcaa
open Go.RowKit Go.Sort Go.Maps

abbrev acI (a : Ac) : DataW Unit := .lit (.int .i64 a.has)
abbrev entI (p : Nm × Ac) : Lit × DataW Unit := (.string p.1, acI p.2)
def ledI (L : Led) : DataW Unit := .map (L.map entI)
theorem ledI_map (L : Led) : IsMap (ledI L) := ⟨_, rfl⟩
theorem ledI_at (L : Led) (n : Nm) (z : DataW Unit) : (ledI L).atKey (.string n) z = ((look L n).map acI).getD z := by
  induction L with
  | nil => rfl
  | cons x r ih =>
    obtain ⟨m, b⟩ := x
    unfold look
    by_cases e : m = n
    · subst e
      rw [if_pos rfl]
      simp [ledI, DataW.atKey, same_str]
    · rw [if_neg e, ← ih]
      have : (m == n) = false := beq_false_of_ne e
      simp [ledI, DataW.atKey, same_str, this]
theorem ledI_has (L : Led) (n : Nm) : Maps.has (ledI L) (.string n) = (look L n).isSome := by
  induction L with
  | nil => rfl
  | cons x r ih =>
    obtain ⟨m, b⟩ := x
    unfold look
    by_cases e : m = n
    · subst e
      rw [if_pos rfl]
      simp [ledI, has_eq, same_str]
    · rw [if_neg e, ← ih]
      have : (m == n) = false := beq_false_of_ne e
      simp [ledI, has_eq, same_str, this]
theorem ledI_size (L : Led) : Maps.size (ledI L) = L.length := by simp [ledI, size_eq]
theorem insert_allI (x : Lit × DataW Unit) (n : Nm) (hx : x.1 = .string n) : ∀ l : Led, (∀ p ∈ l, n < p.1) → DataW.insert x (l.map entI) = x :: l.map entI
  | [], _ => rfl
  | (m, b) :: r, h => by
    have h1 : bytesBefore n m = true := by rw [before_eq]; exact decide_eq_true (h (m, b) (List.mem_cons_self ..))
    rw [List.map_cons]
    unfold DataW.insert
    rw [if_pos (by rw [hx]; exact h1)]
theorem filter_allI {n : Nm} {l : Led} (h : ∀ p ∈ l, p.1 ≠ n) : (l.map entI).filter (fun p => !p.1.sameKey (.string n)) = l.map entI := by
  rw [List.filter_eq_self]
  intro q hq
  obtain ⟨p, hp, rfl⟩ := List.mem_map.1 hq
  simp [same_str, h p hp]
theorem ledI_put {L : Led} (hL : Ris L) (n : Nm) (a : Ac) : (ledI L).put (.string n) (acI a) = ledI (put L n a) := by
  show DataW.map (DataW.insert (.string n, acI a) ((L.map entI).filter fun p => !p.1.sameKey (.string n))) = .map ((put L n a).map entI)
  refine congrArg _ ?_
  induction L with
  | nil => rfl
  | cons x r ih =>
    obtain ⟨m, b⟩ := x
    obtain ⟨h1, h2⟩ := List.pairwise_cons.1 hL
    unfold put
    by_cases h3 : m < n
    · rw [if_pos h3, List.map_cons, List.filter_cons_of_pos (by simp [same_str, nm_ne h3])]
      have h4 : bytesBefore n m = false := by rw [before_eq]; exact decide_eq_false (nm_asymm h3)
      unfold DataW.insert
      rw [if_neg (by show ¬ bytesBefore n m = true; rw [h4]; decide), ih h2, List.map_cons]
    · rw [if_neg h3]
      by_cases h4 : m = n
      · rw [if_pos h4]
        subst h4
        have h5 : ∀ p ∈ r, m < p.1 := h1
        rw [List.map_cons, List.filter_cons_of_neg (by simp [same_str]), filter_allI (fun p hp => (nm_ne (h5 p hp)).symm), insert_allI _ m rfl r h5, List.map_cons]
      · rw [if_neg h4]
        have h5 : n < m := ((nm_lt_or m n).resolve_left h3).resolve_left h4
        have h6 : ∀ p ∈ (m, b) :: r, n < p.1 := fun p hp => by
          rcases List.mem_cons.1 hp with rfl | hp
          · exact h5
          · exact nm_trans h5 (h1 p hp)
        rw [filter_allI (fun p hp => (nm_ne (h6 p hp)).symm), insert_allI _ n rfl _ h6]
        rfl
/-- How a number reads. -/
def accI : Value → Option (DataW Unit × List MemPlace)
  | .int .i64 h => some (acI ⟨h, 0⟩, [])
  | _ => none
theorem accI_mk (h : Int) : accI (.int .i64 h) = some (acI ⟨h, 0⟩, []) := rfl
theorem accI_inv {v : Value} {z : DataW Unit × List MemPlace} (h : accI v = some z) : ∃ x : Int, v = .int .i64 x ∧ z = (acI ⟨x, 0⟩, []) := by
  unfold accI at h
  split at h
  · cases h
    exact ⟨_, rfl, rfl⟩
  · cases h
theorem acI_inj {a b : Int} (h : acI ⟨a, 0⟩ = acI ⟨b, 0⟩) : a = b := by simpa [acI] using h
/-- A map of numbers by names. -/
def Own.mi (b : Nat) (L : Led) : Own where
  bl k := k = b
  ok W := W.ownsMap Try.prog 9 accI b L.length (ledI L)
  lt W h k hk := by subst hk; exact h.lt
  keep W W' hk h := by
    obtain ⟨es, clock, hb, F, hs, hD⟩ := h
    exact ⟨es, clock, (hk b rfl).trans hb, F, hs, hD⟩
section
variable {ops : Array Oper} {rest : List Oper} {o : Oper} {a : Act} {Q : Exit → Act → World → Prop} {w W : World} {ex : Nat → Prop} {l : List Own}
theorem int_zero (w : World) : (zeroValue 3).run Try.prog w = .ok (.int .i64 0) w := by kernel_rfl
/-- make(map[string]int). -/
theorem wpList_makeMi (h : Ms w ex l W) (hg : o.guard = none) (dst : Option Tmp) (hdst : o.dst = dst) (hrun : (execOp a.eval o).run Try.prog W = .ok (.value (.map (some W.heap.size))) (W.alloc (.map #[] 0)))
    (hK : ∀ b W', Ms w ex (l ++ [.mi b []]) W' → wpList Try.prog ops Q rest (a.put dst (.map (some b))) W') : wpList Try.prog ops Q (o :: rest) a W :=
  Go.Great.wpList_allocTo hg dst hdst _ _ hrun (hK W.heap.size _ (h.add (o := .mi W.heap.size []) ((Below.refl _ _).alloc (Nat.le_refl _) _) (World.ownsMap_made _ _ _ _) (fun k hk => by have : k = W.heap.size := hk; omega)))
/-- a, there := m[n]. -/
theorem wpList_lookMi {b : Nat} {L : Led} (hown : W.ownsMap Try.prog 9 accI b L.length (ledI L)) (hw : Region.wanted o (yielded ops a.tmps) = true) (m x : Operand) (t : TypeId) (ht : Try.prog.underlying t = some (.map 9 3)) (hop : o.op = Op.lookup t m x true)
    (n : Nm) (hm : a.eval m = .map (some b)) (hx : a.eval x = str n) (hn : n.length ≤ maxLen) (c : Int) (r : Bool) (hc : (acc L n).has = c) (hr : (look L n).isSome = r)
    (hK : wpList Try.prog ops Q rest (a.put o.dst (.tuple #[.int .i64 c, .bool r])) W) : wpList Try.prog ops Q (o :: rest) a W :=
  wpList_wanted hw fun K' hK' => by
    obtain ⟨v, ps, hrun, hv⟩ := hown.look_ok str_law ht (int_zero W) (accI_mk 0) (str_key hn)
    obtain ⟨c2, rfl, hz⟩ := accI_inv hv
    rw [ledI_at] at hz
    rw [ledI_has, hr] at hrun
    simp only [Prod.mk.injEq] at hz
    have e : c2 = c := by
      subst hc
      apply acI_inj
      rw [← hz.1]
      unfold acc
      cases look L n <;> rfl
    subst e
    unfold Oper.wp
    simp [execOp, hop, hm, hx, hrun, Result.andThen]
    exact hK' _ _ hK
/-- m[n] = c. -/
theorem wpList_putMi (h : Ms w ex l W) (j : Nat) {b : Nat} {L : Led} (hj : l[j]? = some (.mi b L)) (hg : o.guard = none) (m x v : Operand) (t : TypeId) (ht : Try.prog.underlying t = some (.map 9 3)) (hop : o.op = Op.mapUpdate t m x v)
    (n : Nm) (c : Int) (hm : a.eval m = .map (some b)) (hx : a.eval x = str n) (hv : a.eval v = .int .i64 c) (hn : n.length ≤ maxLen) (hL : Ris L) (hlen : L.length < maxLen) (L' : Led) (hL' : put L n ⟨c, 0⟩ = L')
    (hK : ∀ W', Ms w ex (l.set j (.mi b L')) W' → wpList Try.prog ops Q rest (a.put o.dst undef) W') : wpList Try.prog ops Q (o :: rest) a W := by
  subst hL'
  refine wpList_mapUpdate_own W hg m x v t hop 9 3 str_law ht accI b L.length (ledI L) hm (show W.ownsMap _ _ _ _ _ _ from h.ok j _ hj) hlen _ _ _ hx hv (str_key hn) _ _ (accI_mk c) (fun W' hW hgr => hK W' ?_)
  refine h.mut j hj ⟨hgr.os, hgr.tape, hgr.output, hgr.size, fun k hk hne => hgr.block k hk (fun e => hne (show k = b from Option.some.inj e))⟩ ?_ (fun k hk => .inl hk)
  show W'.ownsMap _ _ _ _ _ _
  rw [ledI_put hL n ⟨c, 0⟩] at hW
  have := own_tight hW
  rwa [ledI_size] at this
end
end Go.Proofs.Ytflgnlpippjhcaa
