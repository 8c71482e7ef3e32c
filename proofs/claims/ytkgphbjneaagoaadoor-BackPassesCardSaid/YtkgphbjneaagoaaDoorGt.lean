/- Back: a slice that is read is appended to a row of one's own; what a pass leaves, one behind the other, in plain. -/
import Derived.Test.YtkgphbjneaagoaaDoorGq
import Derived.Deep.Upon
set_option linter.unusedVariables false
set_option maxRecDepth 100000
namespace Go.Proofs.YtkgphbjneaagoaaDoor
open Go.RowKit Go.Sort

theorem flat_split {α : Type} {c : α → List Value} {k : Nat} (hk : ∀ x, (c x).length = k) (h0 : 0 < k) : ∀ (l : List α) (j : Nat) (u : Value), (l.flatMap c)[j]? = some u → ∃ i x r, l[i]? = some x ∧ (c x)[r]? = some u ∧ j = i * k + r
  | [], j, u, h => by simp at h
  | x :: l, j, u, h => by
    rw [List.flatMap_cons] at h
    rcases Nat.lt_or_ge j k with h1 | h1
    · rw [List.getElem?_append_left (by rw [hk]; exact h1)] at h
      exact ⟨0, x, j, rfl, h, by omega⟩
    · rw [List.getElem?_append_right (by rw [hk]; exact h1), hk] at h
      obtain ⟨i, y, r, h2, h3, h4⟩ := flat_split hk h0 l (j - k) u h
      exact ⟨i + 1, y, r, h2, h3, by rw [Nat.add_mul]; omega⟩
section
variable {α : Type} {P : Program} {ops : Array Oper} {rest : List Oper} {o : Oper} {a : Act} {Q : Exit → Act → World → Prop} {w W : World} {ex : Nat → Prop} {L : List Own}
/-- append(s, x...): x is a slice that is read, or nil; s a row of structs that is owned. -/
theorem append_rd (h : Ms w ex L W) (i : Nat) (hgd : o.guard = none) (s x : Operand) (t e : TypeId) (k bytes : Nat) (c : α → List Value) (z : Value) (ho : o.op = .call { callee := .builtin .append, args := #[s, x], argTypes := #[t, t] })
    (hu : P.underlying t = some (.slice e)) (hinfo : (P.info? e).map (fun i => (i.zero, i.size, i.bytes)) = some (some z, k, bytes)) (hzs : z.cells.size = k) (hsz : 0 < k)
    (A : Option Addr) (cap : Nat) (l : List α) (ln : Nat) (hln : l.length = ln) (A2 : Option Addr) (n2 c2 : Nat) (l2 : List α) (zs : List α) (n' : Nat) (hzs' : l ++ l2 = zs) (hn' : zs.length = n') (hs : a.eval s = .slice A ln cap) (hrow : L[i]? = some (rowS e k c A cap l)) (hx : a.eval x = .slice A2 n2 c2)
    (hR : RdS k c W A2 n2 l2) (hk : ∀ x, (c x).length = k) (h1 : ∀ x, (c x).all (·.oneCell') = true) (hlen : (ln + n2) * bytes ≤ 140737488355328) (hmax : ln + n2 ≤ maxLen)
    (hK : ∀ A' c' W', Ms w ex (L.set i (rowS e k c A' c' zs)) W' → wpList P ops Q rest (a.put o.dst (.slice A' n' c')) W') : wpList P ops Q (o :: rest) a W := by
  subst hln
  subst hzs'
  subst hn'
  cases A2 with
  | some ad =>
    refine append_at h i hgd s x t e k bytes z ho hu hinfo hzs hsz _ l.length n2 c2 (l.flatMap c) (l2.flatMap c) ad hs hrow hx (fun j u hj => ?_) (by rw [flat_len hk, hR.1]) (fun u hu => ?_) hlen hmax (l ++ l2).length ((l ++ l2).flatMap c) (by rw [List.length_append, hR.1]) (by rw [List.flatMap_append]) hK
    · obtain ⟨b, y, r, h2, h3, rfl⟩ := flat_split hk hsz l2 j u hj
      have hn : 0 < n2 := by have := (List.getElem?_eq_some_iff.1 h2).1; have := hR.1; omega
      obtain ⟨ad', e1, hc⟩ := hR.2.2 hn
      cases e1
      rw [← Addr.add_add]
      exact hc b y h2 r u h3
    · obtain ⟨y, hy, hu2⟩ := List.mem_flatMap.1 hu
      exact List.all_eq_true.1 (h1 y) u hu2
  | none =>
    have hn : n2 = 0 := by
      rcases Nat.eq_zero_or_pos n2 with h2 | h2
      · exact h2
      · obtain ⟨ad', e1, _⟩ := hR.2.2 h2
        cases e1
    subst hn
    have hl2 : l2 = [] := List.eq_nil_of_length_eq_zero hR.1
    subst hl2
    obtain ⟨i0, hi, hzz⟩ := Option.map_eq_some_iff.1 hinfo
    simp only [Prod.mk.injEq] at hzz
    obtain ⟨hz0, hz1, hz2⟩ := hzz
    have hcap := rowS_cap (h.ok i _ hrow)
    refine wpList_plain hgd fun K hK' => ?_
    have hr := run_append_nothing (P := P) W t t o.type e i0 hu hi A l.length cap hcap.1 (.slice none 0 c2) (Src.ofNil W hu c2)
    unfold Oper.wp execOp
    simp only [ho, resolve, invoke, builtin, Sem.run_bind, Sem.run_pure, Result.andThen_ok, List.map_toArray, List.map_cons, List.map_nil, hs, hx, hr]
    refine hK' _ _ ?_
    have := hK A cap W (by
      rw [List.append_nil]
      have e2 : L.set i (rowS e k c A cap l) = L := by
        refine List.ext_getElem? fun j => ?_
        rw [List.getElem?_set]
        split
        · rename_i hj
          subst hj
          split
          · exact hrow.symm
          · rename_i hlt
            rw [List.getElem?_eq_none (by omega)]
        · rfl
      rw [e2]
      exact h)
    rwa [List.append_nil] at this
end
/-! ### what a pass leaves -/
theorem notS_sub {s t : NS} (h : subS s t) : notS s t = emptyS := ns_ext fun b hb => by
  rw [notS_bit _ _ _ hb, empty_bit]
  cases h1 : s.getLsbD b
  · rfl
  · rw [h b hb h1]; rfl
theorem and_apart {s t : NS} (h : ∀ i, i < 256 → s.getLsbD i = true → t.getLsbD i = false) : s &&& t = emptyS := ns_ext fun b hb => by
  rw [BitVec.getLsbD_and, empty_bit]
  cases h1 : s.getLsbD b
  · rfl
  · rw [h b hb h1]; rfl
/-- What a pass leaves, one behind the other: what starts, and what is planned. -/
structure Lain (now : Int) (up : NS) (rs : List Ru) (ws : List Wi) (σ : PS) (l1 l2 : List Kp) : Prop where
  s : σ.s = l1.map Kp.x
  p : σ.p = l2.map Kp.x
  ok : ∀ (i : Nat) (k : Kp), (l1 ++ l2)[i]? = some k → Fst ws k.w ∧ k.x.id = k.w.id ∧ 1 ≤ k.w.long ∧ k.w.long ≤ 1048576 ∧ now ≤ k.x.at_ ∧ k.x.at_ + k.w.long ≤ 2199023255552
  cnt : ∀ (i : Nat) (k : Kp), (l1 ++ l2)[i]? = some k → ((Go.Proofs.YtkgphbjneaagoaaDoor.cnt k.x.nodes : Nat) : Int) = k.w.n ∧ notS k.x.nodes (k.w.of &&& up) = emptyS
  st : ∀ (i : Nat) (k : Kp), (l1 ++ l2)[i]? = some k → (k.x.at_ = now ↔ i < l1.length)
  run : ∀ (i : Nat) (k : Kp), (l1 ++ l2)[i]? = some k → ∀ r ∈ rs, k.x.at_ < until_ now r → k.x.nodes &&& r.nodes = emptyS
  two : ∀ (i j : Nat) (k u : Kp), (l1 ++ l2)[i]? = some k → (l1 ++ l2)[j]? = some u → i ≠ j → k.x.id ≠ u.x.id ∧ (k.x.at_ < u.x.at_ + u.w.long → u.x.at_ < k.x.at_ + k.w.long → k.x.nodes &&& u.x.nodes = emptyS)
theorem lain_of (mode : Int) {now : Int} {up : NS} {rs : List Ru} {ws : List Wi} (hR : RightP now up rs ws) (hn : rs.length ≤ 60) (hm : ws.length ≤ 60) : ∃ l1 l2, Lain now up rs ws (passP mode up now rs ws) l1 l2 := by
  obtain ⟨ks, h⟩ := pass_inv (mode := mode) hR.n0 hR.n1 hR.runs hR.wish (by omega)
  have hmem : ∀ k ∈ ks, k.w ∈ ws := fun k hk => h.sub.subset (List.mem_map.2 ⟨k, hk, rfl⟩)
  have hkw : ∀ k ∈ ks, WiOk k.w := fun k hk => hR.wish.ok k.w (hmem k hk)
  have hperm : (ks.filter (fun k => decide (k.x.at_ = now)) ++ ks.filter (fun k => !decide (k.x.at_ = now))).Perm ks := List.filter_append_perm _ ks
  have hin : ∀ i k, (ks.filter (fun k => decide (k.x.at_ = now)) ++ ks.filter (fun k => !decide (k.x.at_ = now)))[i]? = some k → k ∈ ks := fun i k hk => hperm.subset (List.mem_of_getElem? hk)
  have hids : ks.Pairwise fun a b => a.x.id ≠ b.x.id := by
    have h1 := hR.wish.ids.sublist h.sub
    rw [List.pairwise_map] at h1
    refine h1.imp_of_mem fun {a b} ha hb hab => ?_
    rw [(h.ok a ha).id, (h.ok b hb).id]
    exact hab
  have hpw : ks.Pairwise fun a b => a.x.id ≠ b.x.id ∧ Apart a b := hids.and h.apart
  have hpw2 := (hperm.pairwise_iff (R := fun a b : Kp => a.x.id ≠ b.x.id ∧ Apart a b) (fun {a b} hab => ⟨fun e => hab.1 e.symm, hab.2.symm⟩)).2 hpw
  refine ⟨_, _, h.s, h.p, fun i k hk => ?_, fun i k hk => ?_, fun i k hk => ?_, fun i k hk r hr hlt => ?_, fun i j k u hk hu hij => ?_⟩
  · have hk := hin i k hk
    exact ⟨fst_of hR.wish (hmem k hk), (h.ok k hk).id, (hkw k hk).l0, (hkw k hk).l1, (h.ok k hk).ge, (h.ok k hk).le⟩
  · have hk := hin i k hk
    refine ⟨(h.ok k hk).cnt, notS_sub fun b hb h1 => ?_⟩
    rw [BitVec.getLsbD_and, (h.ok k hk).of b hb h1, (h.ok k hk).up_ b hb h1]; rfl
  · rcases Nat.lt_or_ge i (ks.filter fun k => decide (k.x.at_ = now)).length with h1 | h1
    · rw [List.getElem?_append_left h1] at hk
      have := (List.mem_filter.1 (List.mem_of_getElem? hk)).2
      exact ⟨fun _ => h1, fun _ => by simpa using this⟩
    · rw [List.getElem?_append_right h1] at hk
      have := (List.mem_filter.1 (List.mem_of_getElem? hk)).2
      exact ⟨fun h2 => by simp [h2] at this, fun h2 => by omega⟩
  · exact and_apart ((h.ok k (hin i k hk)).runs r hr hlt)
  · have h1 := pairwise_mem (R := fun a b : Kp => a.x.id ≠ b.x.id ∧ Apart a b) (fun a b hab => ⟨fun e => hab.1 e.symm, hab.2.symm⟩) hpw2 i j k u hk hu hij
    exact ⟨h1.1, fun h2 h3 => and_apart (h1.2 h2 h3)⟩
end Go.Proofs.YtkgphbjneaagoaaDoor
