/- A region that draws its order: its callees leave what was there as it was; it lays new blocks (which may come up at any time); stores end it in one forced order. One walk. -/
import Derived.Test.YtflgnlpippjhcaaQt
set_option linter.unusedVariables false
namespace Go.Proofs.Ytflgnlpippjhcaa
open Go.RowKit Go.Sort

/-- What was laid: block by block. -/
abbrev LaidB := Nat → Option Obj
def putB (A : LaidB) (g : Nat) (o : Obj) : LaidB := fun x => if x = g then some o else A x
def okB (A : LaidB) (w : World) : Prop := ∀ g o, A g = some o → w.heap[g]? = some o
def freshB (B : Nat) (A : LaidB) (g : Nat) : Prop := A g = none ∧ B ≤ g
def finB (B : Nat) (A : LaidB) : Prop := ∃ N, ∀ g, N ≤ g → freshB B A g
theorem putB_comm {A : LaidB} {g g' : Nat} (h : g ≠ g') (o o' : Obj) : putB (putB A g o) g' o' = putB (putB A g' o') g o := funext fun x => by
  unfold putB
  by_cases h1 : x = g' <;> by_cases h2 : x = g <;> simp_all
theorem fin_put {B : Nat} {A : LaidB} (h : finB B A) (g : Nat) (o : Obj) : finB B (putB A g o) := by
  obtain ⟨N, hN⟩ := h
  refine ⟨N + g + 1, fun x hx => ⟨?_, (hN x (by omega)).2⟩⟩
  unfold putB
  rw [if_neg (by omega)]
  exact (hN x (by omega)).1
theorem fresh_put {B : Nat} {A : LaidB} {g g' : Nat} {o : Obj} : freshB B (putB A g o) g' ↔ g' ≠ g ∧ freshB B A g' := by
  unfold freshB putB
  by_cases h : g' = g
  · simp [h]
  · simp [h]
theorem ok_below {A : LaidB} {w w' : World} (h : okB A w) (hb : Below w.heap.size w w') : okB A w' := fun g o hg => by
  have := h g o hg
  exact (hb.block g (Array.getElem?_eq_some_iff.1 this).1).trans this
theorem ok_put {A : LaidB} {w : World} (h : okB A w) (o : Obj) : okB (putB A w.heap.size o) (w.alloc o) := fun g x hg => by
  unfold putB at hg
  split at hg
  · rename_i e; subst e; rw [← Option.some.inj hg]; exact heap_alloc_new w o
  · exact ok_below h ((Below.refl _ _).alloc (Nat.le_refl _) _) g x hg

section
variable {P : Program} {ops : Array Oper} {md : Region.Mode} {W : World} {m : Nat} {ob : Nat → Obj}
def givW (P : Program) (W : World) (o : Oper) (a : Act) (v : Value) : Prop :=
  ∀ p : Regrown, o.quietAt P a (fun w'' => Below (grow (redrawn W p.d) p.os).heap.size (grow (redrawn W p.d) p.os) w'') (grow (redrawn W p.d) p.os) v
def YQ (P : Program) (ops : Array Oper) (W : World) (o : Oper) (v : Value) (a : Act) : Prop :=
  (Region.wanted o (yielded ops a.tmps) = true ∧ givW P W o a v) ∨ (Region.wanted o (yielded ops a.tmps) = false ∧ v = undef)
abbrev ptrB (g : Nat) : Value := .pointer (some ⟨g, 0, none⟩)
def fOp (P : Program) (ops : Array Oper) (W : World) (m : Nat) (ob : Nat → Obj) (i : Nat) (K : LaidB → Act → Prop) (A : LaidB) (a : Act) : Prop :=
  match ops[i]? with
  | none => K A a
  | some o => if m ≤ i then ∀ g, freshB W.heap.size A g → K (putB A g (ob i)) (a.put o.dst (ptrB g)) else ∃ v, YQ P ops W o v a ∧ K A (a.put o.dst v)
/-- The operations from m to below n lay blocks. -/
def Lays (P : Program) (ops : Array Oper) (m n : Nat) (ob : Nat → Obj) : Prop :=
  ∀ i, m ≤ i → i < n → ∀ o, ops[i]? = some o → ∀ (a : Act) (w : World), Region.wanted o (yielded ops a.tmps) = true ∧ (execOp a.eval o).run P w = .ok (.value (ptrB w.heap.size)) (w.alloc (ob i))

theorem fOp_mono {i : Nat} {A : LaidB} {a : Act} {K K' : LaidB → Act → Prop} (hf : finB W.heap.size A) (h : ∀ A a, finB W.heap.size A → K A a → K' A a) (hh : fOp P ops W m ob i K A a) : fOp P ops W m ob i K' A a := by
  unfold fOp at *
  split
  · rename_i e; rw [e] at hh; exact h _ _ hf hh
  · rename_i o e
    rw [e] at hh
    dsimp only at hh ⊢
    split
    · rename_i hm; rw [if_pos hm] at hh; exact fun g hg => h _ _ (fin_put hf _ _) (hh g hg)
    · rename_i hm; rw [if_neg hm] at hh
      obtain ⟨v, h1, h2⟩ := hh
      exact ⟨v, h1, h _ _ hf h2⟩

theorem quietAt_imp {o : Oper} {a : Act} {C C' : World → Prop} {w : World} {v : Value} (h : ∀ w', C w' → C' w') (hh : o.quietAt P a C w v) : o.quietAt P a C' w v := by
  unfold Oper.quietAt at *
  generalize (execOp a.eval o).run P w = r at *
  cases r with
  | ok n w' =>
    cases n <;> simp only [Oper.quietUpon] at hh ⊢ <;> try exact hh
    case enter f args => exact ⟨hh.1, hh.2.mono fun e w'' ⟨h1, h2⟩ => ⟨h1, h _ h2⟩⟩
  | halt x w' => exact hh

theorem wpOp_of_fOp {n i : Nat} {A : LaidB} {a : Act} {K : LaidB → Act → Prop} {K' : Act → World → Prop} {R : Exit → Act → World → Prop} {w : World} (hL : Lays P ops m n ob) (hi : i < n) (hw : Below W.heap.size W w) (hA : okB A w)
    (h : ∀ A a w', Below W.heap.size W w' → okB A w' → K A a → K' a w') (hh : fOp P ops W m ob i K A a) : wpOp P ops R i K' a w := by
  unfold fOp at hh
  unfold wpOp
  split
  · rename_i ho; simp only [ho] at hh; exact h _ _ _ hw hA hh
  · rename_i o ho
    simp only [ho] at hh
    by_cases hm : m ≤ i
    · rw [if_pos hm] at hh
      obtain ⟨h1, h2⟩ := hL i hm hi o ho a w
      rw [if_pos h1]
      refine .inl ?_
      unfold Oper.wp
      rw [h2]
      simp only [Oper.upon]
      refine h _ _ _ (hw.alloc hw.size _) (ok_put hA _) (hh _ ⟨?_, hw.size⟩)
      cases e : A w.heap.size with
      | none => rfl
      | some x => have := hA _ _ e; simp at this
    · rw [if_neg hm] at hh
      obtain ⟨v, hy, hK⟩ := hh
      rcases hy with ⟨h1, h2⟩ | ⟨h1, rfl⟩
      · rw [if_pos h1]
        refine .inl ?_
        obtain ⟨p, hp⟩ := regrown_of_below hw
        have h3 := h2 p
        rw [← hp] at h3
        refine Oper.wp_of_quiet (C := fun w' => w' = w ∨ Below w.heap.size w w') (.inl rfl) (K := fun a' => K A a') (fun a' w' hw' hK' => ?_) ⟨v, fun w1 hw1 => ?_, hK⟩
        · rcases hw' with rfl | hb
          · exact h _ _ _ hw hA hK'
          · exact h _ _ _ (hw.trans (hb.mono hw.size)) (ok_below hA hb) hK'
        · have hb1 : Below w.heap.size w w1 := by
            rcases hw1 with rfl | hb
            · exact Below.refl _ _
            · exact hb
          obtain ⟨p1, hp1⟩ := regrown_of_below (hw.trans (hb1.mono hw.size))
          have h4 := h2 p1
          rw [← hp1] at h4
          exact quietAt_imp (fun w' h5 => .inr (hb1.trans (h5.mono hb1.size))) h4
      · rw [if_neg (by rw [h1]; simp)]
        exact h _ _ _ hw hA hK

/-- The head of a region (operations below n) in whatever order; L stands behind it. -/
def headF (P : Program) (md : Region.Mode) (ops : Array Oper) (W : World) (m : Nat) (ob : Nat → Obj) (n : Nat) (L : Array Bool → LaidB → Act → Prop) : Nat → Array Bool → LaidB → Act → Prop
  | 0, done, A, a => L done A a
  | k + 1, done, A, a => Region.ready md ops done ≠ [] ∧ ∀ i ∈ Region.ready md ops done, i < n ∧ fOp P ops W m ob i (headF P md ops W m ob n L k (done.setIfInBounds i true)) A a

theorem any_of_headF {n g : Nat} {L : Array Bool → LaidB → Act → Prop} {R : Exit → Act → World → Prop} (hLay : Lays P ops m n ob)
    (hL : ∀ done A a w, Below W.heap.size W w → okB A w → L done A a → wpAny P md ops R g done a w) :
    ∀ (k : Nat) (done : Array Bool) (A : LaidB) (a : Act) (w : World), Below W.heap.size W w → okB A w → headF P md ops W m ob n L k done A a → wpAny P md ops R (k + g) done a w
  | 0, done, A, a, w, hw, hA, h => by rw [Nat.zero_add]; exact hL _ _ _ _ hw hA h
  | k + 1, done, A, a, w, hw, hA, h => by
    rw [Nat.add_right_comm]
    exact ⟨fun h0 => absurd h0 h.1, fun i hi => wpOp_of_fOp hLay (h.2 i hi).1 hw hA (fun A' a' w' hw' hA' h' => any_of_headF hLay hL k _ A' a' w' hw' hA' h') (h.2 i hi).2⟩

theorem YQ.of_same {o : Oper} {v : Value} {a a' : Act} (hy : YQ P ops W o v a) (he : execOp a'.eval o = execOp a.eval o) (hw : Region.wanted o (yielded ops a'.tmps) = Region.wanted o (yielded ops a.tmps)) : YQ P ops W o v a' := by
  unfold YQ givW Oper.quietAt at *
  rw [he, hw]
  exact hy

theorem fOp_put {j : Nat} {oi oj : Oper} {v : Value} (hj : ops[j]? = some oj) (hap : oi.apart ops oj = true) (hsi : ∀ cs b, oi.op ≠ .select cs b) (hsj : ∀ cs b, oj.op ≠ .select cs b) {K : LaidB → Act → Prop} {A : LaidB} {a : Act}
    (hy : YQ P ops W oi v a) (h : fOp P ops W m ob j K A (a.put oi.dst v)) : fOp P ops W m ob j (fun A' a' => YQ P ops W oi v a' ∧ K A' (a'.put oi.dst v)) A a := by
  obtain ⟨h1, h2, h3⟩ := Oper.apart_spec hap
  have keep : ∀ u, YQ P ops W oi v (a.put oj.dst u) := fun u => hy.of_same (execOp_put oi hsi a oj.dst u h3) (wanted_put oi a oj.dst u h3)
  unfold fOp at *
  simp only [hj] at *
  split
  · rename_i hm
    rw [if_pos hm] at h
    exact fun g hg => ⟨keep _, by rw [← Act.put_comm a v _ h2]; exact h g hg⟩
  · rename_i hm
    rw [if_neg hm] at h
    obtain ⟨u, hu, hn⟩ := h
    exact ⟨u, hu.of_same (execOp_put oj hsj a oi.dst v h1).symm (wanted_put oj a oi.dst v h1).symm, keep _, by rw [← Act.put_comm a v u h2]; exact hn⟩

/-- An operation that reads or calls may come up first. -/
theorem headF_first {n i : Nat} {oi : Oper} {v : Value} {L : Array Bool → LaidB → Act → Prop} (hi : ops[i]? = some oi) (him : i < m) (hsel : ∀ (j : Nat) (o : Oper) cs b, ops[j]? = some o → o.op ≠ .select cs b)
    (hs : Region.sinkB md ops n = true) (hc : Region.chainB md ops n = true) (hn : n < ops.size) (hin : i < n) (hdone : ∀ done A a, L done A a → ∀ j ∈ Region.ready md ops done, n ≤ j) :
    ∀ (k : Nat) (done : Array Bool) (A : LaidB) (a : Act), finB W.heap.size A → HeadInv md ops n done →
      (∀ j oj, ops[j]? = some oj → j ≠ i → done.getD j true = false → (∀ e ∈ oj.after, Region.binds md e = true → e.on ≠ i) → oi.apart ops oj = true) →
      i ∈ Region.ready md ops done → YQ P ops W oi v a → headF P md ops W m ob n L k (done.setIfInBounds i true) A (a.put oi.dst v) → headF P md ops W m ob n L (k + 1) done A a := by
  have self : ∀ {K : LaidB → Act → Prop} {A : LaidB} {a : Act}, YQ P ops W oi v a → K A (a.put oi.dst v) → fOp P ops W m ob i K A a := fun hy hK => by
    unfold fOp; simp only [hi]; rw [if_neg (by omega)]; exact ⟨v, hy, hK⟩
  intro k
  induction k with
  | zero =>
    intro done A a hfin inv _ hr hy H
    have hun := (mem_ready.1 hr).1
    refine ⟨fun h => (by rw [h] at hr; cases hr), fun j hj => ?_⟩
    have hjn : j < n := Nat.lt_of_not_le fun h => tail_waits hs hc hn inv _ i rfl hin hun j h hj
    refine ⟨hjn, ?_⟩
    by_cases e : j = i
    · subst e; exact self hy H
    · exact absurd (hdone _ _ _ H j (ready_mono hj e)) (Nat.not_le.2 hjn)
  | succ k ih =>
    intro done A a hfin inv hfree hr hy H
    have hun := (mem_ready.1 hr).1
    refine ⟨fun h => (by rw [h] at hr; cases hr), fun j hj => ?_⟩
    have hjn : j < n := Nat.lt_of_not_le fun h => tail_waits hs hc hn inv _ i rfl hin hun j h hj
    refine ⟨hjn, ?_⟩
    by_cases e : j = i
    · subst e; exact self hy H
    · obtain ⟨hjun, oj, hoj, hall⟩ := mem_ready.1 hj
      have hnot : ∀ x ∈ oj.after, Region.binds md x = true → x.on ≠ i := fun x hx hb heq => by
        have h1 := hall x hx hb
        rw [heq, getD_both hun] at h1
        cases h1
      have h2 := fOp_put hoj (hfree j oj hoj e hjun hnot) (fun cs b => hsel i oi cs b hi) (fun cs b => hsel j oj cs b hoj) hy (H.2 j (ready_mono hj e)).2
      refine fOp_mono hfin (fun A' a' hf' h3 => ih (done.setIfInBounds j true) A' a' hf' (inv.set hj hjn) (fun q om hm hmi hmun hno => hfree q om hm hmi ?_ hno) (ready_mono hr (Ne.symm e)) h3.1 ?_) h2
      · by_cases hjm : j = q
        · subst hjm; exact hjun
        · rw [getD_set_ne true hjm] at hmun; exact hmun
      · rw [Array.setIfInBounds_comm _ _ e]
        exact h3.2

/-- When blocks alone are left to be laid. -/
theorem headF_lay {n i : Nat} {oi : Oper} {L : Array Bool → LaidB → Act → Prop} (hi : ops[i]? = some oi) (him : m ≤ i)
    (hs : Region.sinkB md ops n = true) (hc : Region.chainB md ops n = true) (hn : n < ops.size) (hin : i < n) (hdone : ∀ done A a, L done A a → ∀ j ∈ Region.ready md ops done, n ≤ j) :
    ∀ (k : Nat) (done : Array Bool) (A : LaidB) (a : Act), finB W.heap.size A → HeadInv md ops n done → (∀ j, j < n → done.getD j true = false → m ≤ j) →
      (∀ j oj, ops[j]? = some oj → j ≠ i → done.getD j true = false → (∀ e ∈ oj.after, Region.binds md e = true → e.on ≠ i) → oi.apart ops oj = true) →
      i ∈ Region.ready md ops done → (∀ g, freshB W.heap.size A g → headF P md ops W m ob n L k (done.setIfInBounds i true) (putB A g (ob i)) (a.put oi.dst (ptrB g))) → headF P md ops W m ob n L (k + 1) done A a := by
  have self : ∀ {K : LaidB → Act → Prop} {A : LaidB} {a : Act}, (∀ g, freshB W.heap.size A g → K (putB A g (ob i)) (a.put oi.dst (ptrB g))) → fOp P ops W m ob i K A a := fun hK => by
    unfold fOp; simp only [hi]; rw [if_pos him]; exact hK
  intro k
  induction k with
  | zero =>
    intro done A a hfin inv _ _ hr H
    have hun := (mem_ready.1 hr).1
    refine ⟨fun h => (by rw [h] at hr; cases hr), fun j hj => ?_⟩
    have hjn : j < n := Nat.lt_of_not_le fun h => tail_waits hs hc hn inv _ i rfl hin hun j h hj
    refine ⟨hjn, ?_⟩
    by_cases e : j = i
    · subst e; exact self H
    · obtain ⟨N, hN⟩ := hfin
      exact absurd (hdone _ _ _ (H N (hN N (Nat.le_refl _))) j (ready_mono hj e)) (Nat.not_le.2 hjn)
  | succ k ih =>
    intro done A a hfin inv hblk hfree hr H
    have hun := (mem_ready.1 hr).1
    refine ⟨fun h => (by rw [h] at hr; cases hr), fun j hj => ?_⟩
    have hjn : j < n := Nat.lt_of_not_le fun h => tail_waits hs hc hn inv _ i rfl hin hun j h hj
    refine ⟨hjn, ?_⟩
    by_cases e : j = i
    · subst e; exact self H
    · obtain ⟨hjun, oj, hoj, hall⟩ := mem_ready.1 hj
      have hmj : m ≤ j := hblk j hjn hjun
      have hnot : ∀ x ∈ oj.after, Region.binds md x = true → x.on ≠ i := fun x hx hb heq => by
        have h1 := hall x hx hb
        rw [heq, getD_both hun] at h1
        cases h1
      have hd := (Oper.apart_spec (hfree j oj hoj e hjun hnot)).2.1
      unfold fOp
      simp only [hoj]
      rw [if_pos hmj]
      intro g' hg'
      refine ih (done.setIfInBounds j true) _ _ (fin_put hfin _ _) (inv.set hj hjn) (fun q hq hqu => hblk q hq ?_) (fun q om hm hmi hmun hno => hfree q om hm hmi ?_ hno) (ready_mono hr (Ne.symm e)) ?_
      · by_cases hjm : j = q
        · subst hjm; exact hjun
        · rw [getD_set_ne true hjm] at hqu; exact hqu
      · by_cases hjm : j = q
        · subst hjm; exact hjun
        · rw [getD_set_ne true hjm] at hmun; exact hmun
      · intro g hg
        obtain ⟨hne, hfg⟩ := fresh_put.1 hg
        have h2 := (H g hfg).2 j (ready_mono hj e)
        have h3 := h2.2
        unfold fOp at h3
        simp only [hoj] at h3
        rw [if_pos hmj] at h3
        have h4 := h3 g' (fresh_put.2 ⟨Ne.symm hne, hg'⟩)
        rw [Array.setIfInBounds_comm _ _ e, putB_comm (Ne.symm hne), ← Act.put_comm a _ _ hd]
        exact h4

theorem getD_set_same (d : Array Bool) (k : Nat) : (d.setIfInBounds k true).getD k true = true := by
  simp only [Array.getD_eq_getD_getElem?, Array.getElem?_setIfInBounds]
  simp
  split <;> simp_all
/-- The walk in the order of the text. -/
def wpG (P : Program) (ops : Array Oper) (W : World) (Q : Act → Prop) : List Oper → Act → Prop
  | [], a => Q a
  | o :: rest, a => if Region.wanted o (yielded ops a.tmps) then ∃ v, givW P W o a v ∧ wpG P ops W Q rest (a.put o.dst v) else wpG P ops W Q rest (a.put o.dst undef)
theorem wpG_nil {Q : Act → Prop} {a : Act} (h : Q a) : wpG P ops W Q [] a := h
theorem wpG_step {Q : Act → Prop} {a : Act} {o : Oper} {rest : List Oper}
    (h : ∀ K : Act → Prop, (∀ a, wpG P ops W Q rest a → K a) → if Region.wanted o (yielded ops a.tmps) then ∃ v, (∀ p : Regrown, o.quietAt P a (fun w'' => Below (grow (redrawn W p.d) p.os).heap.size (grow (redrawn W p.d) p.os) w'') (grow (redrawn W p.d) p.os) v) ∧ K (a.put o.dst v) else K (a.put o.dst undef)) :
    wpG P ops W Q (o :: rest) a := h _ (fun _ h => h)
/-- The blocks, one behind the other. -/
def wpB (W : World) (ob : Nat → Obj) (K : LaidB → Act → Prop) : List Oper → Nat → LaidB → Act → Prop
  | [], _, A, a => K A a
  | o :: rest, i, A, a => ∀ g, freshB W.heap.size A g → wpB W ob K rest (i + 1) (putB A g (ob i)) (a.put o.dst (ptrB g))

theorem headF_blocks {n g : Nat} {K : LaidB → Act → Prop} (hs : Region.sinkB md ops n = true) (hc : Region.chainB md ops n = true) (hn : n < ops.size) :
    ∀ (l : List Oper) (k : Nat) (done : Array Bool) (A : LaidB) (a : Act), m ≤ k → (∀ j, j < k → done.getD j true = true) → (∀ j, j < l.length → l[j]? = ops[k + j]?) → k + l.length = n → finB W.heap.size A → HeadInv md ops n done → Region.lexHead md ops g l.length k done = true →
    wpB W ob K l k A a → headF P md ops W m ob n (fun done' A' a' => Region.seqB md ops g n done' = true ∧ K A' a') l.length done A a
  | [], k, done, A, a, _, _, _, hk, _, _, hB, h => by
    obtain rfl : k = n := by simpa using hk
    exact ⟨by simpa [Region.lexHead] using hB, h⟩
  | o :: l, k, done, A, a, hmk, hdn, hl, hk, hfin, inv, hB, h => by
    have h0 : ops[k]? = some o := by simpa using (hl 0 (by simp)).symm
    simp only [List.length_cons, Region.lexHead, Bool.and_eq_true] at hB
    obtain ⟨⟨hr, hf⟩, hB'⟩ := hB
    have hkn : k < n := by simp only [List.length_cons] at hk; omega
    have hr' : k ∈ Region.ready md ops done := by simpa using hr
    refine headF_lay h0 hmk hs hc hn hkn (fun d' A' a' hL => seqB_ready hL.1) l.length done A a hfin inv (fun j hj hju => ?_) (Region.free_spec h0 hf) hr' (fun g0 hg0 => ?_)
    · rcases Nat.lt_or_ge j k with h1 | h1
      · rw [hdn j h1] at hju; cases hju
      · omega
    · refine headF_blocks hs hc hn l (k + 1) _ _ _ (by omega) (fun j hj => ?_) (fun j hj => by have := hl (j + 1) (by simp; omega); simpa [Nat.add_assoc, Nat.add_comm 1 j] using this) (by simp only [List.length_cons] at hk; omega) (fin_put hfin _ _) (inv.set hr' hkn) hB' (h g0 hg0)
      by_cases e : k = j
      · subst e; exact getD_set_same _ _
      · rw [getD_set_ne true e]; exact hdn j (by omega)

theorem headF_lex {n g : Nat} {A : LaidB} {K : LaidB → Act → Prop} {lb : List Oper} (hfin : finB W.heap.size A) (hsel : Region.noSelect ops = true) (hs : Region.sinkB md ops n = true) (hc : Region.chainB md ops n = true) (hn : n < ops.size) (hlb : ∀ j, j < lb.length → lb[j]? = ops[m + j]?) (hmn : m + lb.length = n) :
    ∀ (l : List Oper) (k : Nat) (done : Array Bool) (a : Act), (∀ j, j < l.length → l[j]? = ops[k + j]?) → k + l.length = m → (∀ j, j < k → done.getD j true = true) → HeadInv md ops n done → Region.lexHead md ops g (l.length + lb.length) k done = true →
    wpG P ops W (fun a' => wpB W ob K lb m A a') l a → headF P md ops W m ob n (fun done' A' a' => Region.seqB md ops g n done' = true ∧ K A' a') (l.length + lb.length) done A a
  | [], k, done, a, _, hk, hdn, inv, hB, h => by
    obtain rfl : k = m := by simpa using hk
    simp only [List.length_nil, Nat.zero_add] at hB ⊢
    exact headF_blocks hs hc hn lb k done A a (Nat.le_refl _) hdn hlb hmn hfin inv hB h
  | o :: l, k, done, a, hl, hk, hdn, inv, hB, h => by
    have h0 : ops[k]? = some o := by simpa using (hl 0 (by simp)).symm
    rw [List.length_cons, Nat.add_right_comm] at hB ⊢
    simp only [Region.lexHead, Bool.and_eq_true] at hB
    obtain ⟨⟨hr, hf⟩, hB'⟩ := hB
    have hkm : k < m := by simp only [List.length_cons] at hk; omega
    have hr' : k ∈ Region.ready md ops done := by simpa using hr
    obtain ⟨v, hy, hK⟩ : ∃ v, YQ P ops W o v a ∧ wpG P ops W (fun a' => wpB W ob K lb m A a') l (a.put o.dst v) := by
      unfold wpG at h
      split at h
      · rename_i hw; obtain ⟨v, h1, h2⟩ := h; exact ⟨v, .inl ⟨hw, h1⟩, h2⟩
      · rename_i hw; exact ⟨undef, .inr ⟨by simpa using hw, rfl⟩, h⟩
    refine headF_first h0 hkm (Region.noSelect_spec hsel) hs hc hn (by omega) (fun d' A' a' hL => seqB_ready hL.1) (l.length + lb.length) done A a hfin inv (Region.free_spec h0 hf) hr' hy
      (headF_lex hfin hsel hs hc hn hlb hmn l (k + 1) _ _ (fun j hj => by have := hl (j + 1) (by simp; omega); simpa [Nat.add_assoc, Nat.add_comm 1 j] using this) (by simp only [List.length_cons] at hk; omega) (fun j hj => ?_) (inv.set hr' (by omega)) hB' hK)
    by_cases e : k = j
    · subst e; exact getD_set_same _ _
    · rw [getD_set_ne true e]; exact hdn j (by omega)
end

/-- m: the operations that read and call; n - m blocks are laid behind them in the text; the rest stores in one forced order. -/
theorem region_bl {P : Program} {id : Nat} {Q : Exit → Act → World → Prop} {a : Act} {w : World} {l : List Oper} (m n : Nat) (ob : Nat → Obj) (S : World → Prop) (hm : P.follows .mixedOrders = true) (hB : Region.lexTailB .any l.toArray n = true) (hmn : m ≤ n) (hS : S w) (hLay : Lays P l.toArray m n ob)
    (h : ∀ W, S W → wpG P l.toArray W (fun a' => wpB W ob (fun A a'' => ∀ w', Below W.heap.size W w' → okB A w' → wpList P l.toArray Q (l.drop n) a'' w') ((l.drop m).take (n - m)) m (fun _ => none) a') (l.take m) a) : (Code.region id l.toArray true).wp P Q a w := by
  simp only [Region.lexTailB, Bool.and_eq_true, decide_eq_true_eq] at hB
  obtain ⟨⟨⟨⟨hsel, hn⟩, hs⟩, hc⟩, hlex⟩ := hB
  have hnl : n < l.length := by simpa using hn
  have htl : (l.take m).length = m := by simp; omega
  have hbl : ((l.drop m).take (n - m)).length = n - m := by simp; omega
  have hdl : (l.drop n).length = l.toArray.size - n := by simp
  have inv0 : HeadInv .any l.toArray n (Array.replicate l.toArray.size false) :=
    ⟨by simp, fun j oj _ hl => (by rw [getD_replicate_false] at hl; cases hl), fun t _ ht => getD_in (by simpa using ht) (getD_replicate_false _ _)⟩
  have H := headF_lex (md := .any) (g := l.toArray.size - n) (A := fun _ => none) (lb := (l.drop m).take (n - m)) ⟨w.heap.size, fun g hg => ⟨rfl, hg⟩⟩ hsel hs hc hn (fun j hj => by
      rw [hbl] at hj
      simp [hj]) (by rw [hbl]; omega) (l.take m) 0 _ a (fun j hj => by
    have hj' : j < m := by rw [htl] at hj; exact hj
    simp [hj']) (by simpa using htl) (fun j hj => by omega) inv0 (by rw [htl, hbl, show m + (n - m) = n by omega]; exact hlex) (h w hS)
  refine wp_region_any hm ?_
  have := any_of_headF (md := .any) (W := w) (R := Q) (g := l.toArray.size - n) (L := fun done' A' a' => Region.seqB .any l.toArray (l.toArray.size - n) n done' = true ∧ ∀ w', Below w.heap.size w w' → okB A' w' → wpList P l.toArray Q (l.drop n) a' w') hLay (fun done A a' W' hW hA hL => by
    have h2 := hL.2 W' hW hA
    have h3 := wpAny_of_seq (md := .any) (l.drop n) n done a' W' (fun j => by simp) (by rw [hdl]; exact hL.1) h2
    rwa [hdl] at h3) _ _ (fun _ => none) a w.drew ⟨rfl, rfl, rfl, Nat.le_refl _, fun _ _ => rfl⟩ (fun g o hg => by cases hg) H
  rw [htl, hbl, show m + (n - m) + (l.toArray.size - n) = l.toArray.size by omega] at this
  exact this
theorem laid_one {g : Nat} {o : Obj} {w : World} (h : okB (putB (fun _ => none) g o) w) : w.heap[g]? = some o := h g o (by simp [putB])
theorem laid_two {B g1 g2 : Nat} {o1 o2 : Obj} {w : World} (h : okB (putB (putB (fun _ => none) g1 o1) g2 o2) w) (hf : freshB B (putB (fun _ => none) g1 o1) g2) : w.heap[g1]? = some o1 ∧ w.heap[g2]? = some o2 ∧ g2 ≠ g1 := by
  have hne := (fresh_put.1 hf).1
  exact ⟨h g1 o1 (by simp [putB, Ne.symm hne]), h g2 o2 (by simp [putB]), hne⟩
/-- A callee's contract, met in such a region. -/
theorem calls_on {P : Program} {f : FuncId} {args : Array Value} {W : World} {d : Nat} {os : Array Obj} {v : Value} (h : Calls P f args (grow (redrawn W d) os) fun e w' => e = .returned v ∧ Below (grow (redrawn W d) os).heap.size (grow (redrawn W d) os) w') :
    Calls P f args (grow (redrawn W d) os) fun e w'' => e = .returned v ∧ Below ((redrawn W d).heap.size + os.size) (grow (redrawn W d) os) w'' := by
  have e : (grow (redrawn W d) os).heap.size = (redrawn W d).heap.size + os.size := by simp [grow]
  rwa [e] at h
end Go.Proofs.Ytflgnlpippjhcaa
