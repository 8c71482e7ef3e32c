/- Plain facts of the laws of sets: parts, counts, moves there and back, first ones. -/
import Derived.Test.YtmhbblkihjmonaaDoorB8
set_option linter.unusedVariables false
namespace Go.Proofs.YtmhbblkihjmonaaDoor
open Go.RowKit

theorem split_len (p q : Nat → Bool) : ∀ l : List Nat, (l.filter fun i => p i && q i).length + (l.filter fun i => p i && !q i).length = (l.filter p).length
  | [] => rfl
  | x :: l => by
    have := split_len p q l
    simp only [List.filter_cons]
    cases p x <;> cases q x <;> simp <;> omega
theorem cnt_bits {s : NS} {p : Nat → Bool} (h : ∀ i, i < 256 → s.getLsbD i = p i) : cnt s = ((List.range 256).filter p).length := by
  unfold cnt lstN
  rw [List.filter_congr fun i hi => h i (List.mem_range.1 hi)]
theorem cnt_parts (s t : NS) : cnt (s &&& t) + cnt (notS s t) = cnt s := by
  rw [cnt_bits (s := s &&& t) (p := fun i => s.getLsbD i && t.getLsbD i) (fun i _ => by simp), cnt_bits (s := notS s t) (p := fun i => s.getLsbD i && !t.getLsbD i) (fun i hi => notS_bit s t i hi)]
  exact split_len _ _ _
theorem cnt_union (s t : NS) : cnt (s ||| t) + cnt (s &&& t) = cnt s + cnt t := by
  have h1 := split_len (fun i => s.getLsbD i || t.getLsbD i) (fun i => t.getLsbD i) (List.range 256)
  have h2 := cnt_parts s t
  rw [cnt_bits (s := s ||| t) (p := fun i => s.getLsbD i || t.getLsbD i) (fun i _ => by simp)]
  have h3 : (List.filter (fun i => (s.getLsbD i || t.getLsbD i) && t.getLsbD i) (List.range 256)).length = cnt t := by
    rw [cnt_bits (s := t) (p := fun i => (s.getLsbD i || t.getLsbD i) && t.getLsbD i) (fun i _ => by cases s.getLsbD i <;> cases t.getLsbD i <;> rfl)]
  have h4 : (List.filter (fun i => (s.getLsbD i || t.getLsbD i) && !t.getLsbD i) (List.range 256)).length = cnt (notS s t) := by
    rw [cnt_bits (s := notS s t) (p := fun i => (s.getLsbD i || t.getLsbD i) && !t.getLsbD i) (fun i hi => by rw [notS_bit _ _ _ hi]; cases s.getLsbD i <;> cases t.getLsbD i <;> rfl)]
  rw [h3, h4] at h1
  omega
theorem parts_or (s t : NS) : (s &&& t) ||| notS s t = s := ns_ext fun i hi => by
  rw [BitVec.getLsbD_or, BitVec.getLsbD_and, notS_bit _ _ _ hi]
  cases s.getLsbD i <;> cases t.getLsbD i <;> rfl
theorem parts_and (s t : NS) : (s &&& t) &&& notS s t = emptyS := ns_ext fun i hi => by
  rw [BitVec.getLsbD_and, BitVec.getLsbD_and, notS_bit _ _ _ hi, empty_bit]
  cases s.getLsbD i <;> cases t.getLsbD i <;> rfl

/-- There and back. -/
theorem back_span (s : NS) (b lo hi : Int) (h0 : -255 ≤ b) (h1 : b ≤ 255) (hlo : lo = if 0 < -b then -b else 0) (hhi : hi = 255 - if 0 < b then b else 0) : moveS (moveS s b) (-b) = s &&& spanS lo hi := ns_ext fun i hi' => by
  rw [moveS_bit, BitVec.getLsbD_and, spanS_bit]
  simp only [hi', decide_true, Bool.true_and]
  by_cases h : 0 ≤ (i : Int) + b ∧ (i : Int) + b < 256
  · rw [show (i : Int) - -b = i + b by omega, hasS_moveS _ _ _ h.1 h.2, show (i : Int) + b - b = i by omega, hasS_nat]
    have e1 : lo ≤ (i : Int) := by rw [hlo]; split <;> omega
    have e2 : (i : Int) ≤ hi := by rw [hhi]; split <;> omega
    simp [e1, e2]
  · have e : ¬ (lo ≤ (i : Int) ∧ (i : Int) ≤ hi) := by
      rw [hlo, hhi]
      split <;> split <;> omega
    have e' : (decide (lo ≤ (i : Int)) && decide ((i : Int) ≤ hi)) = false := by
      rw [← Bool.decide_and]
      exact decide_eq_false e
    rw [e', Bool.and_false]
    rcases (show (i : Int) + b < 0 ∨ 255 < (i : Int) + b by omega) with h | h
    · exact hasS_neg _ (by omega)
    · exact hasS_big _ (by omega)

/-! ### the first ones -/
theorem take_rising (s : NS) (n : Nat) : ((lst s).take n).Pairwise (· < ·) := (lst_sorted s).sublist (List.take_sublist _ _)
theorem lst_take (s : NS) (n : Nat) : lst (ofL ((lst s).take n)) = (lst s).take n := lst_of_rising (take_rising s n) fun i hi => lst_range (List.mem_of_mem_take hi)
theorem cnt_take (s : NS) (n : Nat) (h : n ≤ cnt s) : cnt (ofL ((lst s).take n)) = n := by
  rw [← lst_length, lst_take, List.length_take, lst_length]; omega
theorem take_bit (s : NS) (n i : Nat) (hi : i < 256) (h : (ofL ((lst s).take n)).getLsbD i = true) : s.getLsbD i = true := by
  rw [ofL_bit] at h
  simp only [hi, decide_true, Bool.true_and, decide_eq_true_eq] at h
  have := mem_lst.1 (List.mem_of_mem_take h)
  rwa [hasS_nat] at this
theorem take_or (s : NS) (n : Nat) : ofL ((lst s).take n) ||| notS s (ofL ((lst s).take n)) = s := ns_ext fun i hi => by
  rw [BitVec.getLsbD_or, notS_bit _ _ _ hi]
  cases h : (ofL ((lst s).take n)).getLsbD i
  · simp
  · simp [take_bit s n i hi h]
/-- A first one lies below one that is not among them. -/
theorem take_lt (s : NS) (n : Nat) {a b : Int} (ha : hasS (ofL ((lst s).take n)) a = true) (hb : hasS (notS s (ofL ((lst s).take n))) b = true) : a < b := by
  have ha' := mem_lst.2 ha
  rw [lst_take] at ha'
  have hb1 := mem_lst.2 hb
  have hr := lst_range hb1
  obtain ⟨j, rfl⟩ := Int.eq_ofNat_of_zero_le hr.1
  rw [hasS_nat, notS_bit _ _ _ (by omega)] at hb
  simp only [Bool.and_eq_true, Bool.not_eq_true'] at hb
  have hjs : (j : Int) ∈ lst s := mem_lst.2 (by rw [hasS_nat]; exact hb.1)
  have hjn : (j : Int) ∉ (lst s).take n := fun h => by
    have := mem_lst.1 ((lst_take s n).symm ▸ h)
    rw [hasS_nat] at this
    rw [this] at hb
    exact absurd hb.2 (by simp)
  have hjd : (j : Int) ∈ (lst s).drop n := by
    rw [← List.take_append_drop n (lst s)] at hjs
    rcases List.mem_append.1 hjs with h | h
    · exact absurd h hjn
    · exact h
  have hp := lst_sorted s
  rw [← List.take_append_drop n (lst s), List.pairwise_append] at hp
  exact hp.2.2 a ha' j hjd
theorem nth_has (s : NS) (k : Int) (h : nthOk s k = true) : hasS s (nthV s k) = true := by
  simp only [nthOk, Bool.and_eq_true, decide_eq_true_eq] at h
  have hk : k.toNat < (lst s).length := by rw [lst_length]; omega
  rw [nthV, if_pos h, List.getD_eq_getElem?_getD, List.getElem?_eq_getElem hk]
  exact mem_lst.1 (List.getElem_mem hk)
end Go.Proofs.YtmhbblkihjmonaaDoor
