/- Scale: the document's Right; plain facts of its Decide. -/
import Derived.Test.YtmhbblkihjmonaaDoorS7
set_option linter.unusedVariables false
namespace Go.Proofs.YtmhbblkihjmonaaDoor
open Go.RowKit Go.Sort

set_option maxHeartbeats 4000000 in
theorem rright_c (v : Vw) (w : World) : Calls Tryd.prog 44 #[viewV v] w fun e w' => e = .returned (.bool (rightB v)) ∧ Below w.heap.size w w' := by
  have hB := Blk.new w 43 (viewA v)
  obtain ⟨r1, r2, r3⟩ := hB.rules
  have HL := Lib.hid ((Below.refl w.heap.size w).alloc (Nat.le_refl _) (.cells (viewA v) 43))
  clear hB
  by_cases h1 : 0 ≤ v.mn
  case neg =>
    go_enter Tryd.func44, Tryd.ntmps44
    go_wp2; go_ret; exact ⟨right_no v (by omega), HL.out⟩
  by_cases h3 : 1 ≤ v.cp
  case neg =>
    go_enter Tryd.func44, Tryd.ntmps44
    go_wp2; go_ret; exact ⟨right_no v (by omega), HL.out⟩
  by_cases h4 : v.cp ≤ 256
  case neg =>
    go_enter Tryd.func44, Tryd.ntmps44
    go_wp2; go_ret; exact ⟨right_no v (by omega), HL.out⟩
  by_cases h2 : v.mn ≤ v.cp
  case neg =>
    go_enter Tryd.func44, Tryd.ntmps44
    go_wp2; go_ret; exact ⟨right_no v (by omega), HL.out⟩
  by_cases h5 : 1 ≤ v.rt
  case neg =>
    go_enter Tryd.func44, Tryd.ntmps44
    go_wp2; go_ret; exact ⟨right_no v (by omega), HL.out⟩
  by_cases h6 : v.rt ≤ 1000000
  case neg =>
    go_enter Tryd.func44, Tryd.ntmps44
    go_wp2; go_ret; exact ⟨right_no v (by omega), HL.out⟩
  rw [right_is v (by omega)]
  go_enter Tryd.func44, Tryd.ntmps44
  go_wp2_with fail
  refine (rand_c v.off v.pow _).mono ?_
  rintro e w1 ⟨rfl, hb⟩
  have hz := wn_zero_iff (v.off &&& v.pow)
  have hB := (Blk.new w 43 (viewA v)).after hb
  have HL1 := Lib.hid (below_then HL.out (by simp) hb)
  obtain ⟨s1, s2, s3⟩ := hB.rules
  clear hb hB r1 r2
  by_cases h7 : v.off &&& v.pow = emptyS
  case neg =>
    rw [decide_eq_false h7] at hz
    go_wp2; go_ret; exact ⟨by simp [h7], HL1.out⟩
  rw [decide_eq_true h7] at hz
  have z0 := wn_empty 0
  have z1 := wn_empty 1
  have z2 := wn_empty 2
  have z3 := wn_empty 3
  go_wp2_with fail
  refine (rnot_c v.old v.pow _).mono ?_
  rintro e w2 ⟨rfl, hb⟩
  have HL2 := Lib.hid (below_then HL1.out HL1.out.size hb)
  have hz2 := wn_zero_iff (notS v.old v.pow)
  clear hb
  go_wp2; go_ret
  rw [decide_eq_true h7, Bool.true_and]
  exact ⟨by rw [← hz2]; simp, HL2.out⟩

/-! ### gathering at most so many -/
def tk (s : NS) (K k : Nat) : List Int := (lstR s k).take K
theorem tk_zero (s : NS) (K : Nat) : tk s K 0 = [] := by simp [tk, lstR]
theorem tk_skip (s : NS) (K k : Nat) (h : s.getLsbD k = false) : tk s K (k + 1) = tk s K k := by unfold tk; rw [lstR_succ_false s k h]
theorem tk_add (s : NS) (K k : Nat) (h : s.getLsbD k = true) (hl : (tk s K k).length < K) : tk s K (k + 1) = tk s K k ++ [(k : Int)] := by
  unfold tk at hl ⊢
  rw [List.length_take] at hl
  rw [lstR_succ_true s k h, List.take_append, List.take_of_length_le (l := [(k : Int)]) (by simp; omega)]
theorem tk_full (s : NS) (K k : Nat) (hl : K ≤ (tk s K k).length) : tk s K (k + 1) = tk s K k := by
  cases h : s.getLsbD k
  · exact tk_skip s K k h
  · unfold tk at hl ⊢
    rw [List.length_take] at hl
    rw [lstR_succ_true s k h, List.take_append, show K - (lstR s k).length = 0 by omega]
    simp
theorem tk_le (s : NS) (K k : Nat) : (tk s K k).length ≤ K := by unfold tk; rw [List.length_take]; omega
theorem tk_le' (s : NS) (K k : Nat) : (tk s K k).length ≤ k := by have := lstR_len s k; unfold tk; rw [List.length_take]; omega
theorem tk_all (s : NS) (K : Nat) : tk s K 256 = (lst s).take K := by unfold tk; rw [lstR_all]
theorem low_len (s : NS) (n : Int) : cnt (lowS s n) = (tk s n.toNat 256).length := by rw [tk_all, ← lst_length]; unfold lowS; rw [lst_take]
theorem low_of (s : NS) (n : Int) : ofL (tk s n.toNat 256) = lowS s n := by rw [tk_all]; rfl

/-- From above. -/
def lstT (s : NS) (k : Nat) : List Int := ((List.range k).filter fun i => s.getLsbD (255 - i)).map fun i => ((255 - i : Nat) : Int)
def td (s : NS) (K k : Nat) : List Int := (lstT s k).take K
theorem lstT_succ (s : NS) (k : Nat) : lstT s (k + 1) = lstT s k ++ (if s.getLsbD (255 - k) then [((255 - k : Nat) : Int)] else []) := by
  unfold lstT
  rw [List.range_succ, List.filter_append, List.map_append]
  congr 1
  cases h : s.getLsbD (255 - k) <;> simp [h]
theorem lstT_len (s : NS) (k : Nat) : (lstT s k).length ≤ k := by
  have := List.length_filter_le (fun i => s.getLsbD (255 - i)) (List.range k)
  simpa [lstT] using this
theorem td_zero (s : NS) (K : Nat) : td s K 0 = [] := by simp [td, lstT]
theorem td_skip (s : NS) (K k : Nat) (h : s.getLsbD (255 - k) = false) : td s K (k + 1) = td s K k := by unfold td; rw [lstT_succ, h]; simp
theorem td_add (s : NS) (K k : Nat) (h : s.getLsbD (255 - k) = true) (hl : (td s K k).length < K) : td s K (k + 1) = td s K k ++ [((255 - k : Nat) : Int)] := by
  unfold td at hl ⊢
  rw [List.length_take] at hl
  rw [lstT_succ, h, if_pos rfl, List.take_append, List.take_of_length_le (l := [((255 - k : Nat) : Int)]) (by simp; omega)]
theorem td_full (s : NS) (K k : Nat) (hl : K ≤ (td s K k).length) : td s K (k + 1) = td s K k := by
  cases h : s.getLsbD (255 - k)
  · exact td_skip s K k h
  · unfold td at hl ⊢
    rw [List.length_take] at hl
    rw [lstT_succ, h, if_pos rfl, List.take_append, show K - (lstT s k).length = 0 by omega]
    simp
theorem td_le (s : NS) (K k : Nat) : (td s K k).length ≤ K := by unfold td; rw [List.length_take]; omega
theorem td_le' (s : NS) (K k : Nat) : (td s K k).length ≤ k := by have := lstT_len s k; unfold td; rw [List.length_take]; omega
theorem range_rev (n : Nat) : (List.range n).map (fun i => n - 1 - i) = (List.range n).reverse := by
  apply List.ext_getElem
  · simp
  · intro i h1 h2; simp
theorem lstT_all (s : NS) : lstT s 256 = (lst s).reverse := by
  unfold lstT lst lstN
  rw [← List.map_reverse, ← List.filter_reverse, ← range_rev, List.filter_map, List.map_map]
  congr 1
theorem high_of (s : NS) (n : Int) : ofL (td s n.toNat 256) = highS s n := ns_ext fun i hi => by
  have hlen := lst_length s
  have hnd : (lst s).Nodup := (lst_sorted s).imp fun h => by omega
  obtain ⟨k, hk⟩ : ∃ k : Nat, (k : Int) = if (cnt s : Int) - (if n < 0 then 0 else n) < 0 then 0 else (cnt s : Int) - (if n < 0 then 0 else n) := by
    refine ⟨((cnt s : Int) - (if n < 0 then 0 else n)).toNat, ?_⟩
    split <;> omega
  have e1 : (lst s).reverse.take n.toNat = ((lst s).drop k).reverse := by
    rw [List.take_reverse, hlen]
    congr 2
    split at hk <;> (first | omega | (split at hk <;> omega))
  have e2 : lowS s (cnt s - (if n < 0 then 0 else n)) = ofL ((lst s).take k) := by
    unfold lowS
    congr 2
    split at hk <;> omega
  unfold td highS
  rw [lstT_all, e1, e2, notS_bit _ _ _ hi, ofL_bit, ofL_bit]
  simp only [hi, decide_true, Bool.true_and, List.mem_reverse]
  have hm : ((i : Int) ∈ lst s) ↔ s.getLsbD i = true := by rw [mem_lst, hasS_nat]
  have hs : (i : Int) ∈ lst s ↔ (i : Int) ∈ (lst s).take k ∨ (i : Int) ∈ (lst s).drop k := by rw [← List.mem_append, List.take_append_drop]
  have hd : ¬ ((i : Int) ∈ (lst s).take k ∧ (i : Int) ∈ (lst s).drop k) := by
    rintro ⟨h1, h2⟩
    rw [← List.take_append_drop k (lst s)] at hnd
    exact (List.nodup_append.1 hnd).2.2 _ h1 _ h2 rfl
  cases hb : s.getLsbD i
  · rw [hb] at hm
    have : ¬ (i : Int) ∈ (lst s).drop k := fun h => by
      have := hm.1 (hs.2 (.inr h)); cases this
    simp [this]
  · rw [hb] at hm
    have hin := hs.1 (hm.2 rfl)
    by_cases h1 : (i : Int) ∈ (lst s).take k
    · have h2 : ¬ (i : Int) ∈ (lst s).drop k := fun h => hd ⟨h1, h⟩
      simp [h1, h2]
    · have h2 : (i : Int) ∈ (lst s).drop k := by
        rcases hin with h | h
        · exact absurd h h1
        · exact h
      simp [h1, h2]
end Go.Proofs.YtmhbblkihjmonaaDoor
