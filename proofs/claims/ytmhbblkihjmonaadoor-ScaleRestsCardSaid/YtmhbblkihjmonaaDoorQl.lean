/- A pure operation that nothing waits for: the region is shown as if the tail waited for it. -/
import Derived.Test.YtmhbblkihjmonaaDoorQb
set_option linter.unusedVariables false
namespace Go.Proofs.YtmhbblkihjmonaaDoor
open Go.RowKit Go.Sort

/-- m: the operations that read and call; n - m blocks are laid behind them in the text; the rest stores in one forced order. -/
theorem region_bl_any {P : Program} {Q : Exit → Act → World → Prop} {a : Act} {w : World} {l : List Oper} (m n : Nat) (ob : Nat → Obj) (S : World → Prop) (hB : Region.lexTailB .any l.toArray n = true) (hmn : m ≤ n) (hS : S w) (hLay : Lays P l.toArray m n ob)
    (h : ∀ W, S W → wpG P l.toArray W (fun a' => wpB W ob (fun A a'' => ∀ w', Below W.heap.size W w' → okB A w' → wpList P l.toArray Q (l.drop n) a'' w') ((l.drop m).take (n - m)) m (fun _ => none) a') (l.take m) a) : wpAny P .any l.toArray Q l.toArray.size (Array.replicate l.toArray.size false) a w.drew := by
  simp only [Region.lexTailB, Bool.and_eq_true, decide_eq_true_eq] at hB
  obtain ⟨⟨⟨⟨hsel, hn⟩, hs⟩, hc⟩, hlex⟩ := hB
  have hnl : n < l.length := by simpa using hn
  have htl : (l.take m).length = m := by simp; omega
  have hbl : ((l.drop m).take (n - m)).length = n - m := by simp; omega
  have hdl : (l.drop n).length = l.toArray.size - n := by simp
  have inv0 : HeadInv .any l.toArray n (Array.replicate l.toArray.size false) :=
    ⟨by simp, fun j oj _ hl => (by rw [getD_replicate_false] at hl; cases hl), fun t _ ht => getD_in (by simpa using ht) (getD_replicate_false _ _)⟩
  have H := headF_lex (md := .any) (g := l.toArray.size - n) (A := fun _ => none) (lb := (l.drop m).take (n - m)) ⟨w.heap.size, fun g hg => ⟨rfl, hg⟩⟩ hsel hs hc hn (fun j hj => by
      rw [hbl] at hj
      simp [hj]) (by rw [hbl]; omega) (l.take m) 0 _ a (fun j hj => by
    have hj' : j < m := by rw [htl] at hj; exact hj
    simp [hj']) (by simpa using htl) (fun j hj => by omega) inv0 (by rw [htl, hbl, show m + (n - m) = n by omega]; exact hlex) (h w hS)
  have := any_of_headF (md := .any) (W := w) (R := Q) (g := l.toArray.size - n) (L := fun done' A' a' => Region.seqB .any l.toArray (l.toArray.size - n) n done' = true ∧ ∀ w', Below w.heap.size w w' → okB A' w' → wpList P l.toArray Q (l.drop n) a' w') hLay (fun done A a' W' hW hA hL => by
    have h2 := hL.2 W' hW hA
    have h3 := wpAny_of_seq (md := .any) (l.drop n) n done a' W' (fun j => by simp) (by rw [hdl]; exact hL.1) h2
    rwa [hdl] at h3) _ _ (fun _ => none) a w.drew ⟨rfl, rfl, rfl, Nat.le_refl _, fun _ _ => rfl⟩ (fun g o hg => by cases hg) H
  rw [htl, hbl, show m + (n - m) + (l.toArray.size - n) = l.toArray.size by omega] at this
  exact this

section
variable {P : Program} {ops : Array Oper} {Q : Exit → Act → World → Prop}
abbrev lendOp (o : Oper) (p : Nat) : Oper := { o with after := o.after.push ⟨p, .data⟩ }
theorem lend_get {t p : Nat} {ot : Oper} (ht : ops[t]? = some ot) (i : Nat) : (ops.setIfInBounds t (lendOp ot p))[i]? = if i = t then some (lendOp ot p) else ops[i]? := by
  rw [Array.getElem?_setIfInBounds]
  have := (Array.getElem?_eq_some_iff.1 ht).1
  by_cases h : t = i
  · subst h; simp [this]
  · rw [if_neg h, if_neg (Ne.symm h)]
theorem lend_yielded {t p : Nat} {ot : Oper} (ht : ops[t]? = some ot) (tmps : Array Value) : yielded (ops.setIfInBounds t (lendOp ot p)) tmps = yielded ops tmps := funext fun j => by
  unfold yielded
  rw [lend_get ht]
  by_cases h : j = t
  · subst h; rw [if_pos rfl, ht]; rfl
  · rw [if_neg h]
theorem lend_wpOp {t p i : Nat} {ot : Oper} (ht : ops[t]? = some ot) {K : Act → World → Prop} {a : Act} {w : World} (h : wpOp P (ops.setIfInBounds t (lendOp ot p)) Q i K a w) : wpOp P ops Q i K a w := by
  unfold wpOp at h ⊢
  rw [lend_get ht] at h
  by_cases e : i = t
  · subst e
    rw [if_pos rfl] at h
    rw [ht]
    dsimp only at h ⊢
    rw [lend_yielded ht] at h
    exact h
  · rw [if_neg e] at h
    revert h
    cases ops[i]? with
    | none => exact id
    | some o => dsimp only; rw [lend_yielded ht]; exact id

theorem lend_ready {t p : Nat} {ot : Oper} (ht : ops[t]? = some ot) {done : Array Bool} {i : Nat} : i ∈ Region.ready .any (ops.setIfInBounds t (lendOp ot p)) done ↔ i ∈ Region.ready .any ops done ∧ (i = t → done.getD p false = true) := by
  rw [mem_ready, mem_ready, lend_get ht]
  by_cases e : i = t
  · subst e
    rw [if_pos rfl, ht]
    constructor
    · rintro ⟨h1, o, ho, h2⟩
      obtain rfl := Option.some.inj ho
      exact ⟨⟨h1, ot, rfl, fun e he hb => h2 e (Array.mem_push.2 (.inl he)) hb⟩, fun _ => h2 ⟨p, .data⟩ (Array.mem_push.2 (.inr rfl)) rfl⟩
    · rintro ⟨⟨h1, o, ho, h2⟩, h3⟩
      obtain rfl := Option.some.inj ho
      refine ⟨h1, _, rfl, fun e he hb => ?_⟩
      rcases Array.mem_push.1 he with he | rfl
      · exact h2 e he hb
      · exact h3 rfl
  · rw [if_neg e]
    exact ⟨fun h => ⟨h, fun x => absurd x e⟩, fun h => h.1⟩

theorem lend {t p : Nat} {ot op : Oper} (ht : ops[t]? = some ot) (hp : ops[p]? = some op) (hpt : p ≠ t) (hsel : Region.noSelect ops = true)
    (hpure : ∀ (K : Act → World → Prop) a w, wpOp P ops Q p K a w → ∃ v, Yields P ops op v a ∧ K (a.put op.dst v) w) (hQ : ∀ v c a w, Q (.panic c) (a.put op.dst v) w → Q (.panic c) a w)
    (hfree : ∀ j oj, ops[j]? = some oj → j ≠ p → (∀ e ∈ oj.after, Region.binds .any e = true → e.on ≠ p) → (∀ e ∈ op.after, Region.binds .any e = true → e.on ≠ j) → op.apart ops oj = true)
    (hdeps : ∀ e ∈ op.after, Region.binds .any e = true → ∃ e' ∈ ot.after, Region.binds .any e' = true ∧ e'.on = e.on) :
    ∀ (k : Nat) (done : Array Bool) (a : Act) (w : World), done.size = ops.size → wpAny P .any (ops.setIfInBounds t (lendOp ot p)) Q k done a w → wpAny P .any ops Q k done a w := by
  have key : ∀ done : Array Bool, done.size = ops.size → t ∈ Region.ready .any ops done → done.getD p false = true ∨ p ∈ Region.ready .any ops done := fun done hsz h => by
    obtain ⟨_, o, ho, hall⟩ := mem_ready.1 h
    obtain rfl := Option.some.inj (ht.symm.trans ho)
    cases hd : done.getD p false with
    | true => exact .inl rfl
    | false =>
      refine .inr (mem_ready.2 ⟨getD_in (by rw [hsz]; exact (Array.getElem?_eq_some_iff.1 hp).1) hd, op, hp, fun e he hb => ?_⟩)
      obtain ⟨e', he', hb', hon⟩ := hdeps e he hb
      rw [← hon]
      exact hall e' he' hb'
  intro k
  induction k with
  | zero =>
    intro done a w hsz h
    refine ⟨List.eq_nil_iff_forall_not_mem.2 fun i hi => ?_, h.2⟩
    have hnil := h.1
    by_cases e : i = t
    · subst e
      rcases key done hsz hi with h1 | h1
      · have := lend_ready (p := p) ht |>.2 ⟨hi, fun _ => h1⟩
        rw [hnil] at this; cases this
      · have := lend_ready (p := p) ht |>.2 ⟨h1, fun x => absurd x hpt⟩
        rw [hnil] at this; cases this
    · have := lend_ready (p := p) ht |>.2 ⟨hi, fun x => absurd x e⟩
      rw [hnil] at this; cases this
  | succ k ih =>
    intro done a w hsz h
    by_cases hpr : p ∈ Region.ready .any ops done
    · have h1 := lend_wpOp ht (h.2 p (lend_ready ht |>.2 ⟨hpr, fun x => absurd x hpt⟩))
      obtain ⟨v, hy, hK⟩ := hpure _ _ _ h1
      exact wpAny_first hp (Region.noSelect_spec hsel) (hQ v) k done a w (fun j oj hj hne hun hno => hfree j oj hj hne hno fun e he hb heq => by
        obtain ⟨_, o, ho, hall⟩ := mem_ready.1 hpr
        obtain rfl := Option.some.inj (hp.symm.trans ho)
        have h2 := hall e he hb
        rw [heq, getD_both hun] at h2
        cases h2) hpr hy (ih _ _ _ (by simp [hsz]) hK)
    · have hsub : ∀ i, i ∈ Region.ready .any ops done → i ∈ Region.ready .any (ops.setIfInBounds t (lendOp ot p)) done := fun i hi => lend_ready ht |>.2 ⟨hi, fun e => by
        subst e
        rcases key done hsz hi with h1 | h1
        · exact h1
        · exact absurd h1 hpr⟩
      refine ⟨fun h0 => h.1 (List.eq_nil_iff_forall_not_mem.2 fun i hi => ?_), fun i hi => wpOp_mono (fun a' w' h' => ih _ _ _ (by simp [hsz]) h') (lend_wpOp ht (h.2 i (hsub i hi)))⟩
      have := (lend_ready ht |>.1 hi).1
      rw [h0] at this; cases this
theorem no_event {es : Array Event} (h : es = #[]) : ¬ noRoomEvent ∈ es := by subst h; simp
theorem extract_pure {p : Nat} {o : Oper} {x : Operand} {ix : Nat} (ho : ops[p]? = some o) (hop : o.op = .extract x ix) (hg : o.guard = none) (K : Act → World → Prop) (a : Act) (w : World) (h : wpOp P ops Q p K a w) : ∃ v, Yields P ops o v a ∧ K (a.put o.dst v) w := by
  have hw : Region.wanted o (yielded ops a.tmps) = true := by unfold Region.wanted; rw [hg]
  unfold wpOp at h
  rw [ho] at h
  dsimp only at h
  rw [if_pos hw] at h
  unfold Oper.wp Oper.asks at h
  unfold Yields
  simp only [execOp, hop] at h ⊢
  unfold Instr.extract at h ⊢
  have fin : ∀ v0, a.eval x = v0 → (∃ vs v, v0 = .tuple vs ∧ vs[ix]? = some v) ∨ (∀ vs v, v0 = .tuple vs → vs[ix]? ≠ some v) := fun v0 _ => by
    by_cases hh : ∃ vs v, v0 = .tuple vs ∧ vs[ix]? = some v
    · exact .inl hh
    · exact .inr fun vs v e1 e2 => hh ⟨vs, v, e1, e2⟩
  rcases fin _ rfl with ⟨vs, v, e1, e2⟩ | hno
  · simp only [e1, e2] at h ⊢
    refine ⟨v, .inl ⟨hw, fun _ => rfl⟩, ?_⟩
    rcases h with h | h
    · exact h
    · exact absurd h.1.1 (no_event rfl)
  · exfalso
    rcases h with h | h
    · revert h
      split
      · split
        · rename_i _ vs e _ v e2; exact absurd e2 (hno _ _ e)
        · exact id
      · exact id
    · have := h.1.1
      revert this
      split
      · split
        · rename_i _ vs e _ v e2; exact absurd e2 (hno _ _ e)
        · exact no_event rfl
      · exact no_event rfl
end

def lendFree (ops : Array Oper) (p : Nat) : Bool := match ops[p]? with
  | none => false
  | some op => (List.range ops.size).all fun j => match ops[j]? with
    | none => true
    | some oj => j == p || (oj.after.any fun e => Region.binds .any e && e.on == p) || (op.after.any fun e => Region.binds .any e && e.on == j) || op.apart ops oj
theorem lendFree_spec {ops : Array Oper} {p j : Nat} {op oj : Oper} (hp : ops[p]? = some op) (h : lendFree ops p = true) (hj : ops[j]? = some oj) (hne : j ≠ p) (h1 : ∀ e ∈ oj.after, Region.binds .any e = true → e.on ≠ p) (h2 : ∀ e ∈ op.after, Region.binds .any e = true → e.on ≠ j) : op.apart ops oj = true := by
  unfold lendFree at h
  rw [hp] at h
  have h3 := List.all_eq_true.1 h j (List.mem_range.2 (Array.getElem?_eq_some_iff.1 hj).1)
  rw [hj] at h3
  simp only [Bool.or_eq_true, beq_iff_eq, hne, false_or] at h3
  rcases h3 with (h3 | h3) | h3
  · obtain ⟨e, he, hb⟩ := Array.any_eq_true'.1 h3
    simp only [Bool.and_eq_true, beq_iff_eq] at hb
    exact absurd hb.2 (h1 e he hb.1)
  · obtain ⟨e, he, hb⟩ := Array.any_eq_true'.1 h3
    simp only [Bool.and_eq_true, beq_iff_eq] at hb
    exact absurd hb.2 (h2 e he hb.1)
  · exact h3
/-- region_bl, where the pure operation number p (an extract) may come up behind the store number t. -/
theorem region_bl_lend {P : Program} {id : Nat} {Q : Exit → Act → World → Prop} {a : Act} {w : World} {l : List Oper} (t p : Nat) {ot op : Oper} {x : Operand} {ix : Nat} (m n : Nat) (ob : Nat → Obj) (S : World → Prop) (hm : P.follows .mixedOrders = true)
    (ht : l.toArray[t]? = some ot) (hp : l.toArray[p]? = some op) (hop : op.op = .extract x ix) (hg : op.guard = none) (hpt : p ≠ t) (hsel : Region.noSelect l.toArray = true) (hQ : ∀ v c a w, Q (.panic c) (a.put op.dst v) w → Q (.panic c) a w)
    (hfree : lendFree l.toArray p = true) (hdeps : (op.after.all fun e => !Region.binds .any e || ot.after.any fun e' => Region.binds .any e' && e'.on == e.on) = true)
    (hB : Region.lexTailB .any (l.set t (lendOp ot p)).toArray n = true) (hmn : m ≤ n) (hS : S w) (hLay : Lays P (l.set t (lendOp ot p)).toArray m n ob)
    (h : ∀ W, S W → wpG P (l.set t (lendOp ot p)).toArray W (fun a' => wpB W ob (fun A a'' => ∀ w', Below W.heap.size W w' → okB A w' → wpList P (l.set t (lendOp ot p)).toArray Q ((l.set t (lendOp ot p)).drop n) a'' w') (((l.set t (lendOp ot p)).drop m).take (n - m)) m (fun _ => none) a') ((l.set t (lendOp ot p)).take m) a) :
    (Code.region id l.toArray true).wp P Q a w := by
  refine wp_region_any hm ?_
  have H := region_bl_any (Q := Q) (a := a) m n ob S hB hmn hS hLay h
  have e : (l.set t (lendOp ot p)).toArray = l.toArray.setIfInBounds t (lendOp ot p) := by simp
  have es : (l.set t (lendOp ot p)).toArray.size = l.toArray.size := by simp
  rw [es, e] at H
  refine lend ht hp hpt hsel (extract_pure hp hop hg) hQ (fun j oj hj hne hno hno2 => lendFree_spec hp hfree hj hne hno hno2) (fun e he hb => ?_) _ _ _ _ (by simp) H
  · have h1 := Array.all_eq_true'.1 hdeps e he
    simp only [hb, Bool.not_true, Bool.false_or] at h1
    obtain ⟨e', he', h2⟩ := Array.any_eq_true'.1 h1
    simp only [Bool.and_eq_true, beq_iff_eq] at h2
    exact ⟨e', he', h2.1, h2.2⟩
end Go.Proofs.YtmhbblkihjmonaaDoor
