/- Plain facts on sets of nodes as 256 bits: words, lists, counts. No program in sight. -/
namespace Go.Proofs.YtkgphbjneaagoaaDoor

/-- A set of nodes: 256 bits. -/
abbrev NS := BitVec 256
/-- Its word k. -/
def wn (s : NS) (k : Nat) : Nat := s.toNat / 2 ^ (64 * k) % 2 ^ 64
theorem wn_lt (s : NS) (k : Nat) : wn s k < 2 ^ 64 := Nat.mod_lt _ (by decide)
theorem wn_bit (s : NS) (k j : Nat) : (wn s k).testBit j = (decide (j < 64) && s.getLsbD (64 * k + j)) := by
  unfold wn
  rw [Nat.testBit_mod_two_pow, Nat.testBit_div_two_pow, Nat.add_comm]
  rfl
theorem bit_wn (s : NS) (i : Nat) : s.getLsbD i = (wn s (i / 64)).testBit (i % 64) := by
  rw [wn_bit, decide_eq_true (Nat.mod_lt _ (by decide)), Bool.true_and, Nat.div_add_mod]
theorem ns_ext {s t : NS} (h : ∀ i, i < 256 → s.getLsbD i = t.getLsbD i) : s = t := BitVec.eq_of_getLsbD_eq h
theorem ns_ext_w {s t : NS} (h : ∀ k, k < 4 → wn s k = wn t k) : s = t :=
  ns_ext fun i hi => by rw [bit_wn, bit_wn, h (i / 64) (by omega)]
theorem bit_high (s : NS) (i : Nat) (h : 256 ≤ i) : s.getLsbD i = false := BitVec.getLsbD_of_ge _ _ h
/-- A word is what it is bit by bit. -/
theorem wn_eq {s : NS} {k x : Nat} (hx : x < 2 ^ 64) (h : ∀ j, j < 64 → x.testBit j = s.getLsbD (64 * k + j)) : x = wn s k := by
  apply Nat.eq_of_testBit_eq
  intro j
  rw [wn_bit]
  by_cases hj : j < 64
  · rw [h j hj]; simp [hj]
  · rw [Nat.testBit_lt_two_pow (Nat.lt_of_lt_of_le hx (Nat.pow_le_pow_right (by decide) (by omega)))]; simp [hj]

theorem wn_le (s : NS) (k : Nat) : wn s k ≤ 18446744073709551615 := by have := wn_lt s k; omega

/-! ### a set by what is in it -/
def bitsOf (p : Nat → Bool) : Nat → Nat
  | 0 => 0
  | n + 1 => bitsOf p n ||| (if p n then 2 ^ n else 0)
theorem bitsOf_bit (p : Nat → Bool) (n i : Nat) : (bitsOf p n).testBit i = (decide (i < n) && p i) := by
  induction n with
  | zero => simp [bitsOf]
  | succ n ih =>
    rw [bitsOf, Nat.testBit_or, ih]
    by_cases h : i = n
    · subst h
      cases hp : p i <;> simp
    · have h2 : (if p n = true then 2 ^ n else 0).testBit i = false := by
        split
        · rw [Nat.testBit_two_pow]; simp; omega
        · simp
      rw [h2, Bool.or_false]
      congr 1
      simp; omega
def setOf (p : Nat → Bool) : NS := BitVec.ofNat 256 (bitsOf p 256)
theorem setOf_bit (p : Nat → Bool) (i : Nat) : (setOf p).getLsbD i = (decide (i < 256) && p i) := by
  unfold setOf
  rw [BitVec.getLsbD_ofNat, bitsOf_bit]
  cases decide (i < 256) <;> simp
theorem setOf_self (s : NS) : setOf (fun i => s.getLsbD i) = s := ns_ext fun i hi => by rw [setOf_bit]; simp [hi]
theorem setOf_congr {p q : Nat → Bool} (h : ∀ i, i < 256 → p i = q i) : setOf p = setOf q := ns_ext fun i hi => by rw [setOf_bit, setOf_bit, h i hi]
theorem eq_setOf {s : NS} {p : Nat → Bool} (h : ∀ i, i < 256 → s.getLsbD i = p i) : s = setOf p := ns_ext fun i hi => by rw [setOf_bit, h i hi]; simp [hi]

/-- Is a number in it? -/
def hasS (s : NS) (i : Int) : Bool := decide (0 ≤ i) && s.getLsbD i.toNat
theorem hasS_nat (s : NS) (i : Nat) : hasS s (i : Int) = s.getLsbD i := by simp [hasS]
theorem hasS_neg (s : NS) {i : Int} (h : i < 0) : hasS s i = false := by
  have h2 : ¬ 0 ≤ i := by omega
  simp [hasS, h2]
theorem hasS_big (s : NS) {i : Int} (h : 255 < i) : hasS s i = false := by
  unfold hasS
  rw [bit_high s i.toNat (by omega)]; simp
def emptyS : NS := 0#256
theorem empty_bit (i : Nat) : emptyS.getLsbD i = false := by simp [emptyS]
/-- The set of the numbers of a list. -/
def ofL (l : List Int) : NS := setOf fun i => decide ((i : Int) ∈ l)
theorem ofL_bit (l : List Int) (i : Nat) : (ofL l).getLsbD i = (decide (i < 256) && decide ((i : Int) ∈ l)) := setOf_bit _ _
theorem hasS_ofL (l : List Int) (i : Int) : hasS (ofL l) i = (decide (0 ≤ i) && (decide (i < 256) && decide (i ∈ l))) := by
  unfold hasS
  by_cases h : 0 ≤ i
  · have e : ((i.toNat : Nat) : Int) = i := Int.toNat_of_nonneg h
    rw [ofL_bit, e]
    have e2 : decide (i.toNat < 256) = decide (i < 256) := decide_eq_decide.2 (by omega)
    rw [e2]
  · simp [h]
def withS (s : NS) (i : Int) : NS := setOf fun j => s.getLsbD j || decide ((j : Int) = i)
theorem withS_bit (s : NS) (i : Int) (j : Nat) : (withS s i).getLsbD j = (decide (j < 256) && (s.getLsbD j || decide ((j : Int) = i))) := setOf_bit _ _
theorem withS_out (s : NS) (i : Int) (h : i < 0 ∨ 255 < i) : withS s i = s := ns_ext fun j hj => by
  rw [withS_bit]
  have : ¬ ((j : Int) = i) := by omega
  simp [hj, this]
theorem withS_in (s : NS) (i : Int) (h : hasS s i = true) : withS s i = s := ns_ext fun j hj => by
  rw [withS_bit]
  by_cases e : (j : Int) = i
  · subst e
    rw [hasS_nat] at h
    simp [hj, h]
  · simp [hj, e]
theorem ofL_nil : ofL [] = emptyS := ns_ext fun i hi => by rw [ofL_bit, empty_bit]; simp
theorem ofL_snoc (l : List Int) (x : Int) : ofL (l ++ [x]) = withS (ofL l) x := ns_ext fun i hi => by
  rw [withS_bit, ofL_bit, ofL_bit]
  simp [hi]
theorem ofL_out (l : List Int) (x : Int) (h : x < 0 ∨ 255 < x) : ofL (l ++ [x]) = ofL l := by rw [ofL_snoc, withS_out _ _ h]
theorem ofL_append (l k : List Int) : ofL (l ++ k) = ofL l ||| ofL k := ns_ext fun i hi => by
  rw [BitVec.getLsbD_or, ofL_bit, ofL_bit, ofL_bit]
  simp [hi]
def belowS (n : Int) : NS := setOf fun i => decide ((i : Int) < n)
theorem belowS_bit (n : Int) (i : Nat) : (belowS n).getLsbD i = (decide (i < 256) && decide ((i : Int) < n)) := setOf_bit _ _
def spanS (a b : Int) : NS := setOf fun i => decide (a ≤ (i : Int)) && decide ((i : Int) ≤ b)
theorem spanS_bit (a b : Int) (i : Nat) : (spanS a b).getLsbD i = (decide (i < 256) && (decide (a ≤ (i : Int)) && decide ((i : Int) ≤ b))) := setOf_bit _ _
def notS (s t : NS) : NS := s &&& ~~~ t
theorem notS_bit (s t : NS) (i : Nat) (hi : i < 256) : (notS s t).getLsbD i = (s.getLsbD i && !t.getLsbD i) := by simp [notS, hi]
def moveS (s : NS) (by_ : Int) : NS := setOf fun i => hasS s ((i : Int) - by_)
theorem moveS_bit (s : NS) (b : Int) (i : Nat) : (moveS s b).getLsbD i = (decide (i < 256) && hasS s ((i : Int) - b)) := setOf_bit _ _
theorem hasS_moveS (s : NS) (b i : Int) (h0 : 0 ≤ i) (h1 : i < 256) : hasS (moveS s b) i = hasS s (i - b) := by
  obtain ⟨n, rfl⟩ := Int.eq_ofNat_of_zero_le h0
  have : n < 256 := by omega
  rw [hasS_nat, moveS_bit]; simp [this]

/-! ### its list -/
def lstN (s : NS) : List Nat := (List.range 256).filter fun i => s.getLsbD i
def lst (s : NS) : List Int := (lstN s).map Int.ofNat
def cnt (s : NS) : Nat := (lstN s).length
theorem mem_lstN {s : NS} {i : Nat} : i ∈ lstN s ↔ s.getLsbD i = true := by
  unfold lstN
  rw [List.mem_filter, List.mem_range]
  refine ⟨fun h => h.2, fun h => ⟨?_, h⟩⟩
  rcases Nat.lt_or_ge i 256 with h2 | h2
  · exact h2
  · rw [bit_high s i h2] at h; cases h
theorem mem_lst {s : NS} {i : Int} : i ∈ lst s ↔ hasS s i = true := by
  unfold lst
  rw [List.mem_map]
  constructor
  · rintro ⟨n, hn, rfl⟩
    rw [mem_lstN] at hn
    simpa [hasS] using hn
  · intro h
    unfold hasS at h
    simp only [Bool.and_eq_true, decide_eq_true_eq] at h
    exact ⟨i.toNat, mem_lstN.2 h.2, Int.toNat_of_nonneg h.1⟩
theorem lst_range {s : NS} {i : Int} (h : i ∈ lst s) : 0 ≤ i ∧ i ≤ 255 := by
  rw [mem_lst] at h
  constructor
  · rcases Int.lt_or_le i 0 with h2 | h2
    · rw [hasS_neg s h2] at h; cases h
    · exact h2
  · rcases Int.lt_or_le 255 i with h2 | h2
    · rw [hasS_big s h2] at h; cases h
    · exact h2
theorem lst_length (s : NS) : (lst s).length = cnt s := by simp [lst, cnt]
theorem cnt_le (s : NS) : cnt s ≤ 256 := by
  unfold cnt lstN
  have := List.length_filter_le (fun i => s.getLsbD i) (List.range 256)
  simpa using this
theorem ofL_lst (s : NS) : ofL (lst s) = s := ns_ext fun i hi => by
  rw [ofL_bit]
  have : decide ((i : Int) ∈ lst s) = s.getLsbD i := by
    rw [Bool.eq_iff_iff, decide_eq_true_eq, mem_lst, hasS_nat]
  rw [this]; simp [hi]
theorem lstN_sorted (s : NS) : (lstN s).Pairwise (· < ·) := List.Pairwise.filter _ List.pairwise_lt_range
theorem lst_sorted (s : NS) : (lst s).Pairwise (· < ·) := by
  unfold lst
  rw [List.pairwise_map]
  exact (lstN_sorted s).imp fun h => Int.ofNat_lt.2 h
/-- Two rising lists of the same numbers are one. -/
theorem rising_ext : ∀ {l k : List Int}, l.Pairwise (· < ·) → k.Pairwise (· < ·) → (∀ i, i ∈ l ↔ i ∈ k) → l = k
  | [], [], _, _, _ => rfl
  | [], b :: k, _, _, h => absurd ((h b).2 (List.mem_cons_self ..)) (by simp)
  | a :: l, [], _, _, h => absurd ((h a).1 (List.mem_cons_self ..)) (by simp)
  | a :: l, b :: k, hl, hk, h => by
    have hab : a = b := by
      have h1 := (h a).1 (List.mem_cons_self ..)
      have h2 := (h b).2 (List.mem_cons_self ..)
      rcases List.mem_cons.1 h1 with e | e
      · exact e
      · rcases List.mem_cons.1 h2 with e2 | e2
        · exact e2.symm
        · have := (List.pairwise_cons.1 hl).1 b e2
          have := (List.pairwise_cons.1 hk).1 a e
          omega
    subst hab
    congr 1
    refine rising_ext (List.pairwise_cons.1 hl).2 (List.pairwise_cons.1 hk).2 fun i => ?_
    constructor
    · intro hi
      have hlt := (List.pairwise_cons.1 hl).1 i hi
      rcases List.mem_cons.1 ((h i).1 (List.mem_cons_of_mem _ hi)) with e | e
      · omega
      · exact e
    · intro hi
      have hlt := (List.pairwise_cons.1 hk).1 i hi
      rcases List.mem_cons.1 ((h i).2 (List.mem_cons_of_mem _ hi)) with e | e
      · omega
      · exact e
theorem lst_inj {s t : NS} (h : lst s = lst t) : s = t := by rw [← ofL_lst s, ← ofL_lst t, h]
theorem lst_of_rising {l : List Int} (h : l.Pairwise (· < ·)) (hr : ∀ i ∈ l, 0 ≤ i ∧ i ≤ 255) : lst (ofL l) = l :=
  rising_ext (lst_sorted _) h fun i => by
    rw [mem_lst, hasS_ofL]
    constructor
    · intro h2; simp at h2; exact h2.2.2
    · intro h2
      have := hr i h2
      simp [h2]; omega
theorem cnt_ofL_rising {l : List Int} (h : l.Pairwise (· < ·)) (hr : ∀ i ∈ l, 0 ≤ i ∧ i ≤ 255) : cnt (ofL l) = l.length := by
  rw [← lst_length, lst_of_rising h hr]
theorem lst_empty : lst emptyS = [] := by
  have h : ∀ i, i ∉ lst emptyS := fun i hi => by
    rw [mem_lst] at hi
    simp [hasS, emptyS] at hi
  exact List.eq_nil_iff_forall_not_mem.2 h
theorem cnt_empty : cnt emptyS = 0 := by rw [← lst_length, lst_empty]; rfl
theorem cnt_zero {s : NS} (h : cnt s = 0) : s = emptyS := by
  rw [← ofL_lst s, List.eq_nil_of_length_eq_zero (l := lst s) (by rw [lst_length]; exact h), ofL_nil]
end Go.Proofs.YtkgphbjneaagoaaDoor
