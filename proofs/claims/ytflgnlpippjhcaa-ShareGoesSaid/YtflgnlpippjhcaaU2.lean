/- Share: the plain laws. No program in sight. -/
import Derived.Test.YtflgnlpippjhcaaU1
set_option linter.unusedVariables false
namespace Go.Proofs.Ytflgnlpippjhcaa
open Go.RowKit Go.Sort Go.Maps

theorem two_pow_pos (k : Nat) : (0 : Int) < 2 ^ k := Int.pow_pos (by decide)
theorem tdiv_pow_anti {n : Int} (h : 0 ≤ n) {k j : Nat} (hk : k ≤ j) : n.tdiv (2 ^ j) ≤ n.tdiv (2 ^ k) := by
  rw [Int.tdiv_eq_ediv_of_nonneg h, Int.tdiv_eq_ediv_of_nonneg h]
  have e : (2 : Int) ^ j = 2 ^ k * 2 ^ (j - k) := by rw [← Int.pow_add]; congr 1; omega
  rw [e, ← Int.ediv_ediv_of_nonneg (Int.le_of_lt (two_pow_pos k))]
  exact Int.ediv_le_self _ (Int.ediv_nonneg h (Int.le_of_lt (two_pow_pos k)))
theorem halves_anti {n k j : Int} (h : 0 ≤ n) (hk : k ≤ j) : halvesV n j ≤ halvesV n k := by
  have hb := (halves_bounds n j).1 h
  have hb2 := (halves_bounds n k).1 h
  by_cases h1 : k < 1
  · have : halvesV n k = n := by unfold halvesV; rw [if_pos h1]
    omega
  · by_cases h2 : 62 < j
    · have : halvesV n j = 0 := by unfold halvesV; rw [if_neg (by omega), if_pos h2]
      omega
    · unfold halvesV
      rw [if_neg (by omega), if_neg (by omega), if_neg (by omega), if_neg (by omega)]
      exact tdiv_pow_anti h (by omega)
theorem halves_half {n k : Int} (h : 0 ≤ n) (h2 : n ≤ 1152921504606846976) (hk : 0 ≤ k) : halvesV n (k + 1) = (halvesV n k).tdiv 2 := by
  by_cases h1 : 62 ≤ k
  · have e1 : halvesV n (k + 1) = 0 := by unfold halvesV; rw [if_neg (by omega), if_pos (by omega)]
    have e2 : halvesV n k = 0 := by
      unfold halvesV
      rw [if_neg (by omega)]
      split
      · rfl
      · have : k = 62 := by omega
        subst this
        rw [Int.tdiv_eq_ediv_of_nonneg h]
        exact Int.ediv_eq_zero_of_lt h (by show n < 2 ^ 62; omega)
    rw [e1, e2]; rfl
  · have hb := (halves_bounds n k).1 h
    rw [Int.tdiv_eq_ediv_of_nonneg hb.1]
    have e1 : halvesV n (k + 1) = n / 2 ^ (k.toNat + 1) := by
      unfold halvesV
      rw [if_neg (by omega), if_neg (by omega), Int.tdiv_eq_ediv_of_nonneg h]
      congr 2; omega
    have e2 : halvesV n k = n / 2 ^ k.toNat := by
      unfold halvesV
      by_cases h3 : k < 1
      · have : k = 0 := by omega
        subst this
        simp
      · rw [if_neg h3, if_neg (by omega), Int.tdiv_eq_ediv_of_nonneg h]
    rw [e1, e2, Int.pow_succ, Int.ediv_ediv_of_nonneg (Int.le_of_lt (two_pow_pos _))]
theorem perd_mono {half : Int} {a : Ac} {now later : Int} (h1 : 1 ≤ half) (h : a.at_ ≤ now) (hl : now ≤ later) : perd half a now ≤ perd half a later := by
  rw [perd_eq h1 h, perd_eq h1 (by omega)]
  exact Int.ediv_le_ediv (by omega) (by omega)
theorem perd_half {half : Int} {a : Ac} {now : Int} (h1 : 1 ≤ half) (h : a.at_ ≤ now) : perd half a (now + half) = perd half a now + 1 := by
  rw [perd_eq h1 h, perd_eq h1 (by omega), show now + half - a.at_ = (now - a.at_) + 1 * half by omega, Int.add_mul_ediv_right _ _ (by omega)]
theorem lat_falls {half : Int} {a : Ac} {now later : Int} (h1 : 1 ≤ half) (ha : AcOk a) (h : a.at_ ≤ now) (hl : now ≤ later) : (lat half a later).has ≤ (lat half a now).has := halves_anti ha.h0 (perd_mono h1 h hl)
/-- All were added at most then. -/
def Upto (L : Led) (t : Int) : Prop := ∀ p ∈ L, p.2.at_ ≤ t
theorem Upto.acc {L : Led} {t : Int} (h : Upto L t) (h0 : 0 ≤ t) (n : Nm) : (acc L n).at_ ≤ t := by
  unfold Go.Proofs.Ytflgnlpippjhcaa.acc
  cases hl : look L n with
  | none => exact h0
  | some a => exact h _ (look_mem hl)
theorem Upto.mono {L : Led} {t u : Int} (h : Upto L t) (hu : t ≤ u) : Upto L u := fun p hp => Int.le_trans (h p hp) hu
theorem user_ok {L : Led} {t : Int} (h : Upto L t) (h0 : 0 ≤ t) (h1 : t ≤ 1099511627776) (n : Nm) : userE L n t = 0 := userE_zero.2 ⟨⟨h0, h1⟩, h.acc h0 n⟩
theorem upto_add {half : Int} {L : Led} (h : LOk half L) {n : Nm} {amount now last : Int} (hu : Upto L last) :
    Upto (addL half L n amount now) (if addE L n amount now = 0 then max last now else last) := by
  unfold addL
  by_cases he : addE L n amount now = 0
  · rw [if_pos he, if_pos he]
    intro p hp
    rcases mem_put hp with rfl | hp
    · unfold addE at he
      have hz : userE L n now = 0 := by
        rcases userE_cases L n now with h1 | h1
        · exact h1
        · rw [if_pos h1] at he; omega
      obtain ⟨⟨_, h2⟩, h3⟩ := userE_zero.1 hz
      unfold newAc
      cases hl : look L n with
      | none => simp only; omega
      | some a =>
        have ha : Go.Proofs.Ytflgnlpippjhcaa.acc L n = a := by unfold Go.Proofs.Ytflgnlpippjhcaa.acc; rw [hl]; rfl
        rw [ha] at h3
        have h9 : (lat half a now).at_ ≤ now := (lat_ok h.half.1 (h.ac _ (look_mem hl)) h3 h2).2
        simp only; omega
    · have := hu p hp; omega
  · rw [if_neg he, if_neg he]; exact hu
theorem add_time {L : Led} {n : Nm} {amount now : Int} (he : addE L n amount now = 0) : 0 ≤ now ∧ now ≤ 1099511627776 := by
  unfold addE at he
  rcases userE_cases L n now with h1 | h1
  · exact (userE_zero.1 h1).1
  · rw [if_pos h1] at he; omega
/-- It falls, and halves. -/
theorem law_falls {half : Int} {L : Led} (h : LOk half L) {now later : Int} (hu : Upto L now) (h0 : 0 ≤ now) (hl : now ≤ later) (h1 : later ≤ 1099511627776) (h2 : now + half ≤ 1099511627776) (n : Nm) :
    userE L n now = 0 ∧ userE L n later = 0 ∧ userE L n (now + half) = 0 ∧ usedV half L n later ≤ usedV half L n now ∧ 0 ≤ usedV half L n now ∧ usedV half L n (now + half) = (usedV half L n now).tdiv 2 := by
  have e1 := user_ok hu h0 (by omega) n
  have e2 := user_ok (hu.mono hl) (by omega) h1 n
  have e3 := user_ok (hu.mono (show now ≤ now + half by have := h.half; omega)) (by have := h.half; omega) h2 n
  refine ⟨e1, e2, e3, ?_, (h.used n now).1, ?_⟩
  · unfold usedV
    rw [if_pos e1, if_pos e2]
    exact lat_falls h.half.1 (h.acc n) (hu.acc h0 n) hl
  · unfold usedV
    rw [if_pos e1, if_pos e3]
    show halvesV _ (perd half _ (now + half)) = (halvesV _ (perd half _ now)).tdiv 2
    rw [perd_half h.half.1 (hu.acc h0 n), halves_half (h.acc n).h0 (h.acc n).h1 (perd_bounds h.half.1 (hu.acc h0 n)).1]
theorem sum_le {α : Type} {f g : α → Int} : ∀ {l : List α}, (∀ x ∈ l, f x ≤ g x) → (l.map f).sum ≤ (l.map g).sum
  | [], _ => by simp
  | x :: l, h => by
    rw [List.map_cons, List.sum_cons, List.map_cons, List.sum_cons]
    have h1 := h x (List.mem_cons_self ..)
    have h2 := sum_le (l := l) fun y hy => h y (List.mem_cons_of_mem _ hy)
    omega
theorem tot_falls {half : Int} {L : Led} (h : LOk half L) {now later : Int} (hu : Upto L now) (h0 : 0 ≤ now) (hl : now ≤ later) (h1 : later ≤ 1099511627776) : totV half L later ≤ totV half L now := by
  unfold totV
  rw [if_pos ⟨by omega, h1⟩, if_pos ⟨h0, by omega⟩]
  have h2 : totT half L later ≤ totT half L now := sum_le fun p hp => by
    unfold valT
    rw [if_pos (Int.le_trans (hu p hp) hl), if_pos (hu p hp)]
    exact lat_falls h.half.1 (h.ac p hp) (hu p hp) hl
  have h3 := tot_nonneg h h1
  rw [most_nonneg h3, most_nonneg (by omega)]
  omega
/-! ### the part -/
theorem facQ_bounds {u t : Int} (hu : 0 ≤ u) (ht : 1 ≤ t) : 0 ≤ facQ u t ∧ facQ u t ≤ 1000 := by
  unfold facQ
  have : 0 ≤ (u * 1000 + t - 1) / t := Int.ediv_nonneg (by omega) (by omega)
  omega
theorem tot_pos {half : Int} {L : Led} (h : LOk half L) {now : Int} (hn : timeP now) (hz : ¬ totV half L now = 0) : 1 ≤ totV half L now := by
  unfold totV at hz ⊢
  rw [if_pos hn] at hz ⊢
  have := tot_nonneg h hn.2
  rw [most_nonneg this] at hz ⊢
  omega
theorem fac_bounds {half : Int} {L : Led} (h : LOk half L) (n : Nm) (now : Int) : 0 ≤ facV half L n now ∧ facV half L n now ≤ 1000 := by
  unfold facV
  by_cases hu : userE L n now = 0
  · rw [if_pos hu]
    by_cases hz : totV half L now = 0
    · rw [if_pos hz]; omega
    · rw [if_neg hz]
      have := facQ_bounds (h.used n now).1 (tot_pos h (userE_zero.1 hu).1 hz)
      omega
  · rw [if_neg hu]; omega
/-- The least that is enough. -/
theorem facQ_least {u t f : Int} (ht : 1 ≤ t) : (u * 1000 + t - 1) / t ≤ f ↔ u * 1000 ≤ f * t := by
  constructor
  · intro h
    have h1 := Int.lt_ediv_add_one_mul_self (u * 1000 + t - 1) (show 0 < t by omega)
    have h2 : ((u * 1000 + t - 1) / t) * t ≤ f * t := Int.mul_le_mul_of_nonneg_right h (by omega)
    rw [Int.add_mul] at h1
    omega
  · intro h
    refine Int.le_of_lt_add_one (Int.ediv_lt_of_lt_mul (by omega) ?_)
    rw [Int.add_mul]
    omega
/-! ### the sum -/
theorem parts_bounds {t : Int} (ht : 1 ≤ t) : ∀ (l : List Int), (∀ u ∈ l, 0 ≤ u ∧ u ≤ t) → (l.map fun u => 1000 - facQ u t).sum * t ≤ 1000 * (l.length : Int) * t - 1000 * l.sum ∧ 1000 * (l.length : Int) * t - 1000 * l.sum - (l.length : Int) * (t - 1) ≤ (l.map fun u => 1000 - facQ u t).sum * t
  | [], _ => by simp
  | u :: l, h => by
    obtain ⟨i1, i2⟩ := parts_bounds ht l fun v hv => h v (List.mem_cons_of_mem _ hv)
    obtain ⟨u0, u1⟩ := h u (List.mem_cons_self ..)
    have q1 : (u * 1000 + t - 1) / t ≤ 1000 := (facQ_least ht).2 (by omega)
    have q2 : facQ u t = (u * 1000 + t - 1) / t := by unfold facQ; omega
    have m1 : u * 1000 ≤ ((u * 1000 + t - 1) / t) * t := (facQ_least ht).1 (Int.le_refl _)
    have m2 : ((u * 1000 + t - 1) / t) * t ≤ u * 1000 + t - 1 := Int.ediv_mul_le _ (by omega)
    rw [List.map_cons, List.sum_cons, List.sum_cons, List.length_cons, q2]
    generalize (l.map fun u => 1000 - facQ u t).sum = P at *
    generalize (u * 1000 + t - 1) / t = q at *
    generalize l.sum = S at *
    have e0 : (1000 - q + P) * t = 1000 * t - q * t + P * t := by rw [Int.add_mul, Int.sub_mul]
    have e1 : 1000 * ((l.length + 1 : Nat) : Int) * t = 1000 * ((l.length : Int) * t) + 1000 * t := by
      rw [show ((l.length + 1 : Nat) : Int) = (l.length : Int) + 1 by omega, Int.mul_add, Int.add_mul, Int.mul_assoc, Int.mul_one]
    have e2 : ((l.length + 1 : Nat) : Int) * (t - 1) = (l.length : Int) * t - (l.length : Int) + t - 1 := by
      rw [show ((l.length + 1 : Nat) : Int) = (l.length : Int) + 1 by omega, Int.add_mul, Int.mul_sub, Int.one_mul, Int.mul_one]; omega
    have e3 : (l.length : Int) * (t - 1) = (l.length : Int) * t - (l.length : Int) := by rw [Int.mul_sub, Int.mul_one]
    have e4 : 1000 * (l.length : Int) * t = 1000 * ((l.length : Int) * t) := Int.mul_assoc _ _ _
    rw [e0, e1, e2]
    rw [e4] at i1 i2
    rw [e3] at i2
    generalize (l.length : Int) * t = X at *
    generalize q * t = Y at *
    generalize P * t = Z at *
    omega
theorem law_sum {t : Int} (ht : 1 ≤ t) {l : List Int} (hl : ∀ u ∈ l, 0 ≤ u ∧ u ≤ t) (hs : l.sum = t) :
    (l.map fun u => 1000 - facQ u t).sum ≤ 1000 * ((l.length : Int) - 1) ∧ 1000 * ((l.length : Int) - 1) - (l.length : Int) < (l.map fun u => 1000 - facQ u t).sum := by
  obtain ⟨h1, h2⟩ := parts_bounds ht l hl
  rw [hs] at h1 h2
  generalize (l.map fun u => 1000 - facQ u t).sum = P at *
  have hN : 1 ≤ (l.length : Int) := by
    cases l with
    | nil => simp at hs; omega
    | cons x l => simp; omega
  generalize (l.length : Int) = N at *
  have e1 : 1000 * N * t - 1000 * t = (1000 * (N - 1)) * t := by rw [← Int.sub_mul]; congr 1; omega
  have e2 : N * (t - 1) = N * t - N := by rw [Int.mul_sub, Int.mul_one]
  have e3 : (1000 * (N - 1) - N) * t = 1000 * (N - 1) * t - N * t := by rw [Int.sub_mul]
  constructor
  · refine Int.le_of_mul_le_mul_right (a := t) ?_ (by omega)
    omega
  · refine Int.lt_of_mul_lt_mul_right (a := t) ?_ (by omega)
    rw [e3]
    rw [e2] at h2
    omega
theorem le_sum {l : List Int} (h : ∀ u ∈ l, 0 ≤ u) : ∀ u ∈ l, u ≤ l.sum := by
  induction l with
  | nil => intro u hu; cases hu
  | cons x l ih =>
    intro u hu
    rw [List.sum_cons]
    have h1 := sum_nonneg (l := l) fun y hy => h y (List.mem_cons_of_mem _ hy)
    rcases List.mem_cons.1 hu with rfl | hu
    · omega
    · have := ih (fun y hy => h y (List.mem_cons_of_mem _ hy)) u hu
      have := h x (List.mem_cons_self ..)
      omega
/-- What each one has used, in order, is what all have. -/
theorem tot_used {half : Int} {L : Led} (h : LOk half L) {now : Int} (hu : Upto L now) (h0 : 0 ≤ now) (h1 : now ≤ 1099511627776) : totT half L now = (L.map fun p => usedV half L p.1 now).sum := by
  unfold totT
  refine congrArg _ (List.map_congr_left fun p hp => ?_)
  unfold valT usedV
  rw [if_pos (hu p hp), if_pos (user_ok hu h0 h1 p.1)]
  have : acc L p.1 = p.2 := by unfold acc; rw [look_of_mem h.ris (a := p.2) hp]; rfl
  rw [this]
end Go.Proofs.Ytflgnlpippjhcaa
