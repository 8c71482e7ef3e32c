/- Scale: the plain laws: what is powered on and off, in numbers; it comes to rest. -/
import Derived.Test.YtmhbblkihjmonaaDoorS3
import Derived.Test.YtmhbblkihjmonaaDoorFa
set_option linter.unusedVariables false
namespace Go.Proofs.YtmhbblkihjmonaaDoor

theorem bit_eq {s t : NS} (h : s = t) (i : Nat) : s.getLsbD i = t.getLsbD i := by rw [h]
theorem cnt_disj {s t : NS} (h : s &&& t = emptyS) : cnt (s ||| t) = cnt s + cnt t := by
  have := cnt_union s t; rw [h, cnt_empty] at this; omega
/-- In it? -/
def Sub (s t : NS) : Prop := ∀ i, i < 256 → s.getLsbD i = true → t.getLsbD i = true
theorem Sub.trans {s t u : NS} (h : Sub s t) (k : Sub t u) : Sub s u := fun i hi hs => k i hi (h i hi hs)
theorem sub_not (s t : NS) : Sub (notS s t) s := fun i hi h => by rw [notS_bit _ _ _ hi] at h; simp at h; exact h.1
theorem sub_and (s t : NS) : Sub (s &&& t) s := fun i hi h => by rw [BitVec.getLsbD_and] at h; simp at h; exact h.1
theorem sub_empty {s t : NS} (h : Sub s t) : notS s t = emptyS := ns_ext fun i hi => by
  rw [notS_bit _ _ _ hi, empty_bit]
  have := h i hi
  cases e : s.getLsbD i
  · rfl
  · rw [this e]; rfl
theorem sub_of {s t : NS} (h : notS s t = emptyS) : Sub s t := fun i hi hs => by
  have := bit_eq h i
  rw [notS_bit _ _ _ hi, empty_bit, hs] at this
  simpa using this
theorem cnt_sub {s t : NS} (h : Sub t s) : cnt (notS s t) + cnt t = cnt s := by
  have e : s &&& t = t := ns_ext fun i hi => by
    rw [BitVec.getLsbD_and]
    cases e : t.getLsbD i
    · simp
    · rw [h i hi e]; rfl
  have := cnt_parts s t
  rw [e] at this; omega
theorem cnt_mono {s t : NS} (h : Sub s t) : cnt s ≤ cnt t := by have := cnt_sub h; omega
theorem cnt_none {s : NS} : cnt s = 0 ↔ s = emptyS := ⟨cnt_zero, fun h => by rw [h, cnt_empty]⟩

theorem low_sub (s : NS) (n : Int) : Sub (lowS s n) s := fun i hi h => take_bit s _ i hi h
theorem cnt_low (s : NS) (n : Int) : (cnt (lowS s n) : Int) = if n < 0 then 0 else if (cnt s : Int) < n then (cnt s : Int) else n := by
  unfold lowS
  by_cases h : n.toNat ≤ cnt s
  · rw [cnt_take s _ h]; split
    · omega
    · split <;> omega
  · rw [List.take_of_length_le (by rw [lst_length]; omega), ofL_lst, if_neg (by omega)]; split <;> omega
theorem high_sub (s : NS) (n : Int) : Sub (highS s n) s := sub_not _ _
theorem cnt_high (s : NS) (n : Int) : (cnt (highS s n) : Int) = if n < 0 then 0 else if (cnt s : Int) < n then (cnt s : Int) else n := by
  unfold highS
  obtain ⟨k, hk⟩ : ∃ k : Int, k = cnt s - (if n < 0 then 0 else n) := ⟨_, rfl⟩
  rw [← hk]
  have h1 := cnt_sub (low_sub s k)
  have h2 := cnt_low s k
  by_cases a : n < 0
  · rw [if_pos a] at hk ⊢
    split at h2 <;> (try split at h2) <;> omega
  · rw [if_neg a] at hk ⊢
    split at h2 <;> (try split at h2) <;> split <;> omega

def afterV (v : Vw) (on off : NS) : Vw := { v with off := notS v.off on ||| off, pow := notS (v.pow ||| on) off, old := notS v.old off }
def stepV (v : Vw) : Vw := afterV v (onS v) (offS v)
theorem right_facts {v : Vw} (h : rightB v = true) : (0 ≤ v.mn ∧ v.mn ≤ v.cp ∧ 1 ≤ v.cp ∧ v.cp ≤ 256 ∧ 1 ≤ v.rt ∧ v.rt ≤ 1000000) ∧ v.off &&& v.pow = emptyS ∧ Sub v.old v.pow := by
  simp only [rightB, Bool.and_eq_true, decide_eq_true_eq] at h
  obtain ⟨⟨⟨⟨⟨⟨⟨h1, h2⟩, h3⟩, h4⟩, h5⟩, h6⟩, h7⟩, h8⟩ := h
  exact ⟨⟨h1, h2, h3, h4, h5, h6⟩, h7, sub_of h8⟩
theorem right_of {v : Vw} (h1 : 0 ≤ v.mn ∧ v.mn ≤ v.cp ∧ 1 ≤ v.cp ∧ v.cp ≤ 256 ∧ 1 ≤ v.rt ∧ v.rt ≤ 1000000) (h2 : v.off &&& v.pow = emptyS) (h3 : Sub v.old v.pow) : rightB v = true := by
  simp only [rightB, Bool.and_eq_true, decide_eq_true_eq]
  exact ⟨⟨⟨⟨⟨⟨⟨h1.1, h1.2.1⟩, h1.2.2.1⟩, h1.2.2.2.1⟩, h1.2.2.2.2.1⟩, h1.2.2.2.2.2⟩, h2⟩, sub_empty h3⟩
theorem right_after {v : Vw} (h : rightB v = true) (on off : NS) : rightB (afterV v on off) = true := by
  obtain ⟨h1, h2, h3⟩ := right_facts h
  refine right_of h1 (ns_ext fun i hi => ?_) fun i hi => ?_
  · have e1 := bit_eq h2 i
    simp only [afterV, BitVec.getLsbD_and, BitVec.getLsbD_or, notS_bit _ _ _ hi, empty_bit] at e1 ⊢
    revert e1
    cases v.off.getLsbD i <;> cases v.pow.getLsbD i <;> cases on.getLsbD i <;> cases off.getLsbD i <;> simp
  · have e1 := h3 i hi
    simp only [afterV, BitVec.getLsbD_or, notS_bit _ _ _ hi]
    revert e1
    cases v.old.getLsbD i <;> cases v.pow.getLsbD i <;> cases on.getLsbD i <;> cases off.getLsbD i <;> simp

theorem on1_sub (v : Vw) : Sub (on1S v) (v.off &&& v.wnt) := low_sub _ _
theorem on2_sub (v : Vw) : Sub (on2S v) (notS v.off v.wnt) := low_sub _ _
theorem off_sub (v : Vw) : Sub (offS v) (notS v.old v.wnt) := high_sub _ _
theorem on_bits (v : Vw) (i : Nat) (hi : i < 256) : ((on1S v).getLsbD i = true → v.off.getLsbD i = true ∧ v.wnt.getLsbD i = true) ∧ ((on2S v).getLsbD i = true → v.off.getLsbD i = true ∧ v.wnt.getLsbD i = false) ∧ ((offS v).getLsbD i = true → v.old.getLsbD i = true ∧ v.wnt.getLsbD i = false) := by
  refine ⟨fun h => ?_, fun h => ?_, fun h => ?_⟩
  · have := on1_sub v i hi h; rw [BitVec.getLsbD_and] at this; simpa using this
  · have := on2_sub v i hi h; rw [notS_bit _ _ _ hi] at this; simpa using this
  · have := off_sub v i hi h; rw [notS_bit _ _ _ hi] at this; simpa using this
theorem on_sub (v : Vw) : Sub (onS v) v.off := fun i hi h => by
  obtain ⟨a, b, _⟩ := on_bits v i hi
  simp only [onS, BitVec.getLsbD_or, Bool.or_eq_true] at h
  rcases h with h | h
  · exact (a h).1
  · exact (b h).1
theorem cnt_on (v : Vw) : cnt (onS v) = cnt (on1S v) + cnt (on2S v) := cnt_disj (ns_ext fun i hi => by
  obtain ⟨a, b, _⟩ := on_bits v i hi
  rw [BitVec.getLsbD_and, empty_bit]
  revert a b
  cases (on1S v).getLsbD i <;> cases (on2S v).getLsbD i <;> cases v.wnt.getLsbD i <;> simp)
/-- What one step does, in numbers. -/
theorem step_nums {v : Vw} (h : rightB v = true) : (cnt ((stepV v).off &&& (stepV v).wnt)) + cnt (on1S v) = (cnt (v.off &&& v.wnt)) ∧ (cnt (notS (stepV v).off (stepV v).wnt)) + cnt (on2S v) = (cnt (notS v.off v.wnt)) + cnt (offS v) ∧ (cnt (stepV v).pow) + cnt (offS v) = (cnt v.pow) + cnt (onS v) ∧ (cnt (notS (stepV v).old (stepV v).wnt)) + cnt (offS v) = (cnt (notS v.old v.wnt)) := by
  obtain ⟨h1, h2, h3⟩ := right_facts h
  refine ⟨?_, ?_, ?_, ?_⟩
  · rw [← cnt_sub (on1_sub v)]
    congr 2
    refine ns_ext fun i hi => ?_
    obtain ⟨a, b, c⟩ := on_bits v i hi
    simp only [stepV, afterV, onS, BitVec.getLsbD_and, BitVec.getLsbD_or, notS_bit _ _ _ hi]
    revert a b c
    cases (on1S v).getLsbD i <;> cases (on2S v).getLsbD i <;> cases (offS v).getLsbD i <;> cases v.wnt.getLsbD i <;> cases v.off.getLsbD i <;> simp
  · have e : notS (stepV v).off (stepV v).wnt = notS (notS v.off v.wnt) (on2S v) ||| offS v := ns_ext fun i hi => by
      obtain ⟨a, b, c⟩ := on_bits v i hi
      simp only [stepV, afterV, onS, BitVec.getLsbD_or, notS_bit _ _ _ hi]
      revert a b c
      cases (on1S v).getLsbD i <;> cases (on2S v).getLsbD i <;> cases (offS v).getLsbD i <;> cases v.wnt.getLsbD i <;> cases v.off.getLsbD i <;> simp
    have d : notS (notS v.off v.wnt) (on2S v) &&& offS v = emptyS := ns_ext fun i hi => by
      obtain ⟨a, b, c⟩ := on_bits v i hi
      have e2 := bit_eq h2 i
      have e3 := h3 i hi
      simp only [BitVec.getLsbD_and, notS_bit _ _ _ hi, empty_bit] at e2 ⊢
      revert c e2 e3
      cases (offS v).getLsbD i <;> cases v.off.getLsbD i <;> cases v.old.getLsbD i <;> cases v.pow.getLsbD i <;> simp
    have := cnt_disj d
    have k := cnt_sub (on2_sub v)
    show cnt _ + _ = _
    rw [e, this]
    omega
  · have e : Sub (offS v) (v.pow ||| onS v) := fun i hi hs => by
      obtain ⟨a, b, c⟩ := on_bits v i hi
      rw [BitVec.getLsbD_or, h3 i hi (c hs).1]; rfl
    have d : v.pow &&& onS v = emptyS := ns_ext fun i hi => by
      have e2 := bit_eq h2 i
      have e3 := on_sub v i hi
      simp only [BitVec.getLsbD_and, empty_bit] at e2 ⊢
      revert e2 e3
      cases v.pow.getLsbD i <;> cases v.off.getLsbD i <;> cases (onS v).getLsbD i <;> simp
    have := cnt_disj d
    have k := cnt_sub e
    show cnt (notS (v.pow ||| onS v) (offS v)) + _ = _
    omega
  · have e : Sub (offS v) (notS v.old v.wnt) := off_sub v
    rw [← cnt_sub e]
    congr 2
    refine ns_ext fun i hi => ?_
    obtain ⟨a, b, c⟩ := on_bits v i hi
    simp only [stepV, afterV, notS_bit _ _ _ hi]
    revert c
    cases (offS v).getLsbD i <;> cases v.wnt.getLsbD i <;> cases v.old.getLsbD i <;> simp
theorem low_facts (s : NS) (n : Int) : (cnt (lowS s n) : Int) ≤ cnt s ∧ ((cnt (lowS s n) : Int) ≤ n ∨ cnt (lowS s n) = 0) ∧ (cnt (lowS s n) = cnt s ∨ n ≤ (cnt (lowS s n) : Int)) := by
  have h := cnt_low s n
  split at h
  · omega
  · split at h <;> omega
theorem high_facts (s : NS) (n : Int) : (cnt (highS s n) : Int) ≤ cnt s ∧ ((cnt (highS s n) : Int) ≤ n ∨ cnt (highS s n) = 0) ∧ (cnt (highS s n) = cnt s ∨ n ≤ (cnt (highS s n) : Int)) := by
  have h := cnt_high s n
  split at h
  · omega
  · split at h <;> omega
theorem min_facts (a b : Int) : (if a < b then a else b) ≤ a ∧ (if a < b then a else b) ≤ b ∧ ((if a < b then a else b) = a ∨ (if a < b then a else b) = b) := by split <;> omega
/-- Bounds that omega reads. -/
theorem decNums (v : Vw) (h : rightB v = true) : ((cnt (on1S v) : Int) ≤ (cnt (v.off &&& v.wnt)) ∧ (cnt (on1S v) : Int) ≤ v.rt ∧ ((cnt (on1S v) : Int) ≤ v.cp - (cnt v.pow) ∨ cnt (on1S v) = 0) ∧ (cnt (on1S v) = 0 → (cnt (v.off &&& v.wnt)) = 0 ∨ v.cp ≤ (cnt v.pow))) ∧
    ((cnt (on2S v) : Int) ≤ (cnt (notS v.off v.wnt)) ∧ (cnt (on2S v) : Int) + cnt (on1S v) ≤ v.rt ∧ ((cnt (on2S v) : Int) ≤ v.mn - (cnt v.pow) - cnt (on1S v) ∨ cnt (on2S v) = 0) ∧ (cnt (on2S v) = 0 → (cnt (notS v.off v.wnt)) = 0 ∨ v.mn ≤ (cnt v.pow) + cnt (on1S v) ∨ v.rt ≤ cnt (on1S v))) ∧
    ((cnt (offS v) : Int) ≤ (cnt (notS v.old v.wnt)) ∧ ((cnt (offS v) : Int) ≤ (cnt v.pow) + cnt (onS v) - v.mn ∨ cnt (offS v) = 0) ∧ ((cnt (notS v.old v.wnt)) = cnt (offS v) ∨ ((cnt v.pow) : Int) + cnt (onS v) - v.mn ≤ cnt (offS v))) := by
  have hf := (right_facts h).1
  obtain ⟨a1, a2, a3⟩ := low_facts (v.off &&& v.wnt) (if v.cp - (cnt v.pow : Nat) < v.rt then v.cp - (cnt v.pow : Nat) else v.rt)
  obtain ⟨b1, b2, b3⟩ := min_facts (v.cp - (cnt v.pow : Nat)) v.rt
  have e1 : lowS (v.off &&& v.wnt) (if v.cp - (cnt v.pow : Nat) < v.rt then v.cp - (cnt v.pow : Nat) else v.rt) = on1S v := rfl
  rw [e1] at a1 a2 a3
  obtain ⟨c1, c2, c3⟩ := low_facts (notS v.off v.wnt) (if v.mn - (cnt v.pow : Nat) - (cnt (on1S v) : Nat) < v.rt - (cnt (on1S v) : Nat) then v.mn - (cnt v.pow : Nat) - (cnt (on1S v) : Nat) else v.rt - (cnt (on1S v) : Nat))
  obtain ⟨d1, d2, d3⟩ := min_facts (v.mn - (cnt v.pow : Nat) - (cnt (on1S v) : Nat)) (v.rt - (cnt (on1S v) : Nat))
  have e2 : lowS (notS v.off v.wnt) (if v.mn - (cnt v.pow : Nat) - (cnt (on1S v) : Nat) < v.rt - (cnt (on1S v) : Nat) then v.mn - (cnt v.pow : Nat) - (cnt (on1S v) : Nat) else v.rt - (cnt (on1S v) : Nat)) = on2S v := rfl
  rw [e2] at c1 c2 c3
  obtain ⟨f1, f2, f3⟩ := high_facts (notS v.old v.wnt) ((cnt v.pow : Nat) + (cnt (onS v) : Nat) - v.mn)
  have e3 : highS (notS v.old v.wnt) ((cnt v.pow : Nat) + (cnt (onS v) : Nat) - v.mn) = offS v := rfl
  rw [e3] at f1 f2 f3
  clear e1 e2 e3
  generalize (if v.cp - (cnt v.pow : Nat) < v.rt then v.cp - (cnt v.pow : Nat) else v.rt) = k1 at *
  generalize (if v.mn - (cnt v.pow : Nat) - (cnt (on1S v) : Nat) < v.rt - (cnt (on1S v) : Nat) then v.mn - (cnt v.pow : Nat) - (cnt (on1S v) : Nat) else v.rt - (cnt (on1S v) : Nat)) = k2 at *
  refine ⟨⟨?_, ?_, ?_, ?_⟩, ⟨?_, ?_, ?_, ?_⟩, ?_, ?_, ?_⟩ <;> omega

def restB (v : Vw) : Bool := decide (onS v = emptyS) && decide (offS v = emptyS)
theorem rest_iff (v : Vw) : restB v = true ↔ cnt (onS v) = 0 ∧ cnt (offS v) = 0 := by
  rw [cnt_none, cnt_none]; simp [restB]
def iterV : Nat → Vw → Vw
  | 0, v => v
  | n + 1, v => iterV n (stepV v)
theorem iter_succ : ∀ (n : Nat) (v : Vw), iterV (n + 1) v = stepV (iterV n v)
  | 0, _ => rfl
  | n + 1, v => iter_succ n (stepV v)
theorem right_step {v : Vw} (h : rightB v = true) : rightB (stepV v) = true := right_after h _ _
theorem right_iter : ∀ (n : Nat) {v : Vw}, rightB v = true → rightB (iterV n v) = true
  | 0, _, h => h
  | n + 1, _, h => right_iter n (right_step h)
def phi (v : Vw) : Nat := (cnt (v.off &&& v.wnt)) + if ((cnt v.pow) : Int) < v.mn then (cnt (notS v.off v.wnt)) else 0
theorem step_mn (v : Vw) : (stepV v).mn = v.mn ∧ (stepV v).cp = v.cp ∧ (stepV v).rt = v.rt ∧ (stepV v).wnt = v.wnt := ⟨rfl, rfl, rfl, rfl⟩
theorem phi_le {v : Vw} (h : rightB v = true) : phi (stepV v) + (if cnt (onS v) = 0 then 0 else 1) ≤ phi v := by
  obtain ⟨a1, a2, a3⟩ := decNums v h
  obtain ⟨b1, b2, b3, b4⟩ := step_nums h
  obtain ⟨c1, _, _, _⟩ := step_mn v
  have d := cnt_on v
  unfold phi
  rw [c1]
  split <;> split <;> split <;> omega
def Low (v : Vw) : Prop := ((cnt v.pow) : Int) ≤ v.mn ∨ (cnt (notS v.old v.wnt)) = 0
theorem low_step {v : Vw} (h : rightB v = true) : Low (stepV v) := by
  obtain ⟨a1, a2, a3⟩ := decNums v h
  obtain ⟨b1, b2, b3, b4⟩ := step_nums h
  obtain ⟨c1, _, _, _⟩ := step_mn v
  unfold Low
  rw [c1]
  omega
theorem low_rest {v : Vw} (h : rightB v = true) (hl : Low v) (h0 : cnt (onS v) = 0) : restB v = true := by
  obtain ⟨a1, a2, a3⟩ := decNums v h
  rw [rest_iff]
  unfold Low at hl
  omega
theorem rests_low : ∀ (d : Nat) {v : Vw}, rightB v = true → Low v → phi v ≤ d → ∃ n, n ≤ d ∧ (∀ j, j < n → restB (iterV j v) = false) ∧ restB (iterV n v) = true
  | 0, v, h, hl, hd => ⟨0, Nat.le_refl _, fun j hj => absurd hj (by omega), low_rest h hl (by
      have := phi_le h
      by_cases e : cnt (onS v) = 0
      · exact e
      · rw [if_neg e] at this; omega)⟩
  | d + 1, v, h, hl, hd => by
    cases hr : restB v
    · have hn : cnt (onS v) ≠ 0 := fun h0 => by rw [low_rest h hl h0] at hr; cases hr
      have hp := phi_le h
      rw [if_neg hn] at hp
      obtain ⟨n, h1, h2, h3⟩ := rests_low d (right_step h) (low_step h) (by omega)
      refine ⟨n + 1, by omega, fun j hj => ?_, h3⟩
      cases j with
      | zero => exact hr
      | succ j => exact h2 j (by omega)
    · exact ⟨0, by omega, fun j hj => absurd hj (by omega), hr⟩
theorem phi_off (v : Vw) : phi v ≤ cnt v.off := by
  have := cnt_parts v.off v.wnt
  unfold phi
  split <;> omega
/-- It comes to rest. -/
theorem rests {v : Vw} (h : rightB v = true) : ∃ n, n ≤ 1 + cnt v.off ∧ (∀ j, j < n → restB (iterV j v) = false) ∧ restB (iterV n v) = true := by
  have hp := phi_le h
  have hq := phi_off v
  cases hr : restB v
  · obtain ⟨n, h1, h2, h3⟩ := rests_low (cnt v.off) (right_step h) (low_step h) (by split at hp <;> omega)
    refine ⟨n + 1, by omega, fun j hj => ?_, h3⟩
    cases j with
    | zero => exact hr
    | succ j => exact h2 j (by omega)
  · exact ⟨0, by omega, fun j hj => absurd hj (by omega), hr⟩

/-! ### the laws -/
theorem iter_same : ∀ (n : Nat) (v : Vw), (iterV n v).mn = v.mn ∧ (iterV n v).cp = v.cp ∧ (iterV n v).rt = v.rt ∧ (iterV n v).wnt = v.wnt
  | 0, _ => ⟨rfl, rfl, rfl, rfl⟩
  | n + 1, v => iter_same n (stepV v)
theorem law_wanted {v : Vw} (h : rightB v = true) {n : Nat} (hn : restB (iterV n v) = true) : (iterV n v).off &&& v.wnt = emptyS ∨ v.cp ≤ (cnt (iterV n v).pow : Int) := by
  obtain ⟨c1, c2, c3, c4⟩ := iter_same n v
  obtain ⟨a1, a2, a3⟩ := decNums (iterV n v) (right_iter n h)
  have d := cnt_on (iterV n v)
  have r := (rest_iff _).1 hn
  rw [← c4, ← c2]
  rcases a1.2.2.2 (by omega) with h | h
  · exact .inl (cnt_zero h)
  · exact .inr h
theorem least_all : ∀ (n : Nat) {v : Vw}, rightB v = true → cnt (iterV n v).off + cnt (iterV n v).pow = cnt v.off + cnt v.pow
  | 0, _, _ => rfl
  | n + 1, v, h => by
    have := least_all n (right_step h)
    obtain ⟨b1, b2, b3, b4⟩ := step_nums h
    have d := cnt_on v
    have e1 := cnt_parts v.off v.wnt
    have e2 := cnt_parts (stepV v).off (stepV v).wnt
    show cnt (iterV n (stepV v)).off + cnt (iterV n (stepV v)).pow = _
    omega
theorem not_empty (s : NS) : notS s emptyS = s := ns_ext fun i hi => by rw [notS_bit _ _ _ hi, empty_bit]; simp
theorem and_empty (s : NS) : s &&& emptyS = emptyS := ns_ext fun i hi => by rw [BitVec.getLsbD_and, empty_bit]; simp
theorem least_low : ∀ (n : Nat) {v : Vw}, rightB v = true → v.wnt = emptyS → ((cnt v.pow : Int) ≤ v.mn ∨ v.old = v.pow) → ((cnt (iterV n v).pow : Int) ≤ v.mn ∨ (iterV n v).old = (iterV n v).pow)
  | 0, _, _, _, h => h
  | n + 1, v, h, hw, hl => by
    refine least_low n (right_step h) hw (.inl ?_)
    obtain ⟨a1, a2, a3⟩ := decNums v h
    obtain ⟨b1, b2, b3, b4⟩ := step_nums h
    have d := cnt_on v
    have hf := (right_facts h).1
    rw [hw, and_empty, cnt_empty] at a1
    rw [hw, not_empty] at a3
    rw [(step_mn v).1]
    rcases hl with hl | hl
    · omega
    · rw [hl] at a3
      omega
theorem law_least {v : Vw} (h : rightB v = true) (hw : v.wnt = emptyS) (ho : v.old = v.pow) {n : Nat} (hn : restB (iterV n v) = true) : (cnt (iterV n v).pow : Int) = if v.mn < (cnt v.off : Int) + cnt v.pow then v.mn else (cnt v.off : Int) + cnt v.pow := by
  obtain ⟨c1, c2, c3, c4⟩ := iter_same n v
  have hr := right_iter n h
  obtain ⟨a1, a2, a3⟩ := decNums (iterV n v) hr
  have hf := (right_facts hr).1
  have d := cnt_on (iterV n v)
  have r := (rest_iff _).1 hn
  have k := least_low n h hw (.inr ho)
  have q := least_all n h
  simp only [c1, c2, c3, c4, hw, and_empty, not_empty, cnt_empty] at hf a1 a2 a3
  have k2 : (cnt (iterV n v).pow : Int) ≤ v.mn := by
    rcases k with k | k
    · exact k
    · rw [k] at a3
      omega
  split <;> omega
theorem law_cap1 {v : Vw} (h : rightB v = true) (hc : (cnt v.pow : Int) ≤ v.cp) : (cnt (v.pow ||| onS v) : Int) ≤ v.cp := by
  obtain ⟨a1, a2, a3⟩ := decNums v h
  have hf := (right_facts h).1
  have d := cnt_on v
  have k := cnt_union v.pow (onS v)
  omega
theorem law_cap2 {v : Vw} (h : rightB v = true) : (cnt (onS v) : Int) ≤ v.rt := by
  obtain ⟨a1, a2, a3⟩ := decNums v h
  have d := cnt_on v
  omega
theorem law_cap3 (v : Vw) : notS (onS v) v.off = emptyS := sub_empty (on_sub v)
theorem law_cap4 {v : Vw} (h : rightB v = true) : onS v &&& offS v = emptyS := ns_ext fun i hi => by
  obtain ⟨h1, h2, h3⟩ := right_facts h
  obtain ⟨a, b, c⟩ := on_bits v i hi
  have e2 := bit_eq h2 i
  have e3 := h3 i hi
  have e4 := on_sub v i hi
  simp only [BitVec.getLsbD_and, empty_bit] at e2 ⊢
  revert c e2 e3 e4
  cases (onS v).getLsbD i <;> cases (offS v).getLsbD i <;> cases v.off.getLsbD i <;> cases v.old.getLsbD i <;> cases v.pow.getLsbD i <;> simp
theorem law_keep1 (v : Vw) : offS v &&& v.wnt = emptyS := ns_ext fun i hi => by
  obtain ⟨a, b, c⟩ := on_bits v i hi
  rw [BitVec.getLsbD_and, empty_bit]
  revert c
  cases (offS v).getLsbD i <;> cases v.wnt.getLsbD i <;> simp
theorem law_keep2 (v : Vw) : notS (offS v) v.old = emptyS := sub_empty fun i hi h => ((on_bits v i hi).2.2 h).1
theorem law_keep3 {v : Vw} (h : rightB v = true) : offS v = emptyS ∨ v.mn ≤ (cnt (notS (v.pow ||| onS v) (offS v)) : Int) := by
  obtain ⟨a1, a2, a3⟩ := decNums v h
  obtain ⟨b1, b2, b3, b4⟩ := step_nums h
  have e : (cnt (stepV v).pow) = cnt (notS (v.pow ||| onS v) (offS v)) := rfl
  rw [e] at b3
  rcases Nat.eq_zero_or_pos (cnt (offS v)) with h0 | h0
  · exact .inl (cnt_zero h0)
  · right; omega
end Go.Proofs.YtmhbblkihjmonaaDoor
