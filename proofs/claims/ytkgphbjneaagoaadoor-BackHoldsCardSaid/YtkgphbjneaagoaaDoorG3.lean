/- Back: what the laws say of passes, in plain. No program in sight. -/
import Derived.Test.YtkgphbjneaagoaaDoorG2
set_option linter.unusedVariables false
namespace Go.Proofs.YtkgphbjneaagoaaDoor
open Go.RowKit Go.Sort

theorem step_grows (mode : Int) (up : NS) (now : Int) (σ : PS) (w : Wi) : ∃ a b, (stepP mode up now σ w).s = σ.s ++ a ∧ (stepP mode up now σ w).p = σ.p ++ b := by
  have hk : ∀ x, ∃ a b, (σ.keep up now w x).s = σ.s ++ a ∧ (σ.keep up now w x).p = σ.p ++ b := fun x => by
    unfold PS.keep
    split
    · exact ⟨[x], [], rfl, by simp⟩
    · exact ⟨[], [x], by simp, rfl⟩
  unfold stepP
  split
  · exact ⟨[], [], by simp, by simp⟩
  · split
    · split
      · exact hk _
      · split
        · exact ⟨[], [], by simp, by simp⟩
        · split
          · exact hk _
          · exact ⟨[], [], by simp, by simp⟩
    · split
      · exact ⟨[], [], by simp, by simp⟩
      · exact ⟨[], [], by simp, by simp⟩
theorem fold_grows (mode : Int) (up : NS) (now : Int) : ∀ (ws : List Wi) (σ : PS), ∃ a b, (ws.foldl (stepP mode up now) σ).s = σ.s ++ a ∧ (ws.foldl (stepP mode up now) σ).p = σ.p ++ b
  | [], σ => ⟨[], [], by simp, by simp⟩
  | w :: ws, σ => by
    obtain ⟨a, b, h1, h2⟩ := step_grows mode up now σ w
    obtain ⟨c, d, h3, h4⟩ := fold_grows mode up now ws (stepP mode up now σ w)
    exact ⟨a ++ c, b ++ d, by rw [List.foldl_cons, h3, h1, List.append_assoc], by rw [List.foldl_cons, h4, h2, List.append_assoc]⟩
/-- What is behind a job does not turn what is planned for it. -/
theorem pass_take (mode : Int) (up : NS) (now : Int) (rs : List Ru) (ws : List Wi) (k : Nat) :
    (passP mode up now rs (ws.take k)).s = (passP mode up now rs ws).s.take (passP mode up now rs (ws.take k)).s.length ∧ (passP mode up now rs (ws.take k)).s.length ≤ (passP mode up now rs ws).s.length ∧
    (passP mode up now rs (ws.take k)).p = (passP mode up now rs ws).p.take (passP mode up now rs (ws.take k)).p.length ∧ (passP mode up now rs (ws.take k)).p.length ≤ (passP mode up now rs ws).p.length := by
  have e : passP mode up now rs ws = (ws.drop k).foldl (stepP mode up now) (passP mode up now rs (ws.take k)) := by
    unfold passP
    rw [← List.foldl_append, List.take_append_drop]
  obtain ⟨a, b, h1, h2⟩ := fold_grows mode up now (ws.drop k) (passP mode up now rs (ws.take k))
  rw [← e] at h1 h2
  rw [h1, h2]
  simp
/-- With None nothing is planned for later. -/
theorem none_p (up : NS) (now : Int) : ∀ (ws : List Wi) (σ : PS), σ.p = [] → (ws.foldl (stepP 0 up now) σ).p = []
  | [], σ, h => h
  | w :: ws, σ, h => by
    rw [List.foldl_cons]
    refine none_p up now ws _ ?_
    unfold stepP
    split
    · exact h
    · split
      · split
        · rename_i x hx hat
          unfold PS.keep; rw [if_pos hat]; exact h
        · rw [if_pos rfl]; exact h
      · rw [if_pos rfl]; exact h
/-- With Easy one is, at most. -/
theorem easy_p (up : NS) (now : Int) : ∀ (ws : List Wi) (σ : PS), σ.p.length ≤ 1 → (ws.foldl (stepP 1 up now) σ).p.length ≤ 1
  | [], σ, h => h
  | w :: ws, σ, h => by
    rw [List.foldl_cons]
    refine easy_p up now ws _ ?_
    unfold stepP
    split
    · exact h
    · split
      · split
        · rename_i x hx hat
          unfold PS.keep; rw [if_pos hat]; exact h
        · rw [if_neg (by decide)]
          split
          · rename_i hk
            unfold keeps at hk
            rw [if_pos rfl] at hk
            have : σ.p = [] := by simpa using hk
            unfold PS.keep
            split
            · simp [this]
            · simp [this]
          · exact h
      · rw [if_neg (by decide)]; exact h
/-- Easy and Full start what None does. -/
theorem all_fold (mode : Int) (hm : mode = 1 ∨ mode = 2) (up : NS) (now : Int) : ∀ (ws : List Wi) (σ τ : PS), (σ = τ ∧ σ.stop = false) ∨ (σ.stop = true ∧ ∃ a, τ.s = σ.s ++ a) →
    ∃ a, (ws.foldl (stepP mode up now) τ).s = (ws.foldl (stepP 0 up now) σ).s ++ a
  | [], σ, τ, h => by
    rcases h with ⟨rfl, _⟩ | ⟨_, a, h⟩
    · exact ⟨[], by simp⟩
    · exact ⟨a, h⟩
  | w :: ws, σ, τ, h => by
    rw [List.foldl_cons, List.foldl_cons]
    refine all_fold mode hm up now ws _ _ ?_
    rcases h with ⟨rfl, hs⟩ | ⟨hs, a, h⟩
    · have hns : ¬ σ.stop = true := by rw [hs]; decide
      have hm0 : ¬ mode = 0 := by omega
      unfold stepP
      rw [if_neg hns, if_neg hns]
      cases hp : planO up σ.l now w with
      | none => exact .inr ⟨rfl, [], by simp [hm0]⟩
      | some x =>
        simp only
        by_cases hat : x.at_ = now
        · rw [if_pos hat, if_pos hat]
          refine .inl ⟨rfl, ?_⟩
          unfold PS.keep; rw [if_pos hat]; exact hs
        · rw [if_neg hat, if_neg hat, if_pos trivial, if_neg hm0]
          refine .inr ⟨rfl, ?_⟩
          split
          · exact ⟨[], by unfold PS.keep; rw [if_neg hat]; simp⟩
          · exact ⟨[], by simp⟩
    · refine .inr ⟨by rw [stepP_stop w hs]; exact hs, ?_⟩
      rw [stepP_stop w hs]
      obtain ⟨b, c, h1, _⟩ := step_grows mode up now τ w
      exact ⟨a ++ b, by rw [h1, h, List.append_assoc]⟩
theorem pass_all (mode : Int) (hm : mode = 1 ∨ mode = 2) (up : NS) (now : Int) (rs : List Ru) (ws : List Wi) :
    (passP 0 up now rs ws).s = (passP mode up now rs ws).s.take (passP 0 up now rs ws).s.length ∧ (passP 0 up now rs ws).s.length ≤ (passP mode up now rs ws).s.length := by
  obtain ⟨a, h⟩ := all_fold mode hm up now ws (startP now up rs) (startP now up rs) (.inl ⟨rfl, rfl⟩)
  have h' : (passP mode up now rs ws).s = (passP 0 up now rs ws).s ++ a := h
  rw [h']
  simp

/-! ### by itself, over what runs then -/
/-- What was started runs. -/
def ranP (now : Int) (ks : List Kp) : List Ru := (ks.filter fun k => decide (k.x.at_ = now)).map fun k => ⟨k.x.nodes, now + k.w.long⟩
theorem Apart.symm {a b : Kp} (h : Apart a b) : Apart b a := fun h1 h2 i hi h3 => by
  have := h h2 h1 i hi
  cases h4 : a.x.nodes.getLsbD i
  · rfl
  · rw [this h4] at h3; cases h3
theorem pairwise_mem {α : Type} {R : α → α → Prop} (hs : ∀ a b, R a b → R b a) : ∀ {l : List α}, l.Pairwise R → ∀ (i j : Nat) (a b : α), l[i]? = some a → l[j]? = some b → i ≠ j → R a b := by
  intro l h i j a b hi hj hij
  obtain ⟨hi1, hi2⟩ := List.getElem?_eq_some_iff.1 hi
  obtain ⟨hj1, hj2⟩ := List.getElem?_eq_some_iff.1 hj
  rcases Nat.lt_or_gt_of_ne hij with h1 | h1
  · have := List.pairwise_iff_getElem.1 h i j hi1 hj1 h1
    rwa [hi2, hj2] at this
  · have := List.pairwise_iff_getElem.1 h j i hj1 hi1 h1
    rw [hi2, hj2] at this
    exact hs _ _ this
theorem filter_pair {α : Type} {R : α → α → Prop} (hs : ∀ a b, R a b → R b a) {l : List α} (h : l.Pairwise R) (p : α → Bool) : ∀ a ∈ l.filter p, ∀ b ∈ l.filter (fun k => !p k), R a b := by
  intro a ha b hb
  obtain ⟨ha1, ha2⟩ := List.mem_filter.1 ha
  obtain ⟨hb1, hb2⟩ := List.mem_filter.1 hb
  obtain ⟨i, hi, ei⟩ := List.getElem_of_mem ha1
  obtain ⟨j, hj, ej⟩ := List.getElem_of_mem hb1
  refine pairwise_mem hs h i j a b (by rw [List.getElem?_eq_getElem hi, ei]) (by rw [List.getElem?_eq_getElem hj, ej]) ?_
  rintro rfl
  rw [ei] at ej
  rw [ej] at ha2
  simp [ha2] at hb2
/-- What runs and what was started may run together. -/
theorem ran_ok {up : NS} {now : Int} {rs : List Ru} {ws : List Wi} {σ : PS} {ks : List Kp} (h : PInv up now rs ws σ ks) (hr : RunsOk up rs) (hk : ∀ k ∈ ks, WiOk k.w) (h0 : 0 ≤ now) (h1 : now ≤ 1099511627776 - 1048576) : RunsOk up (rs ++ ranP now ks) := by
  have hmem : ∀ r ∈ ranP now ks, ∃ k ∈ ks, k.x.at_ = now ∧ r = ⟨k.x.nodes, now + k.w.long⟩ := fun r hr => by
    obtain ⟨k, hk1, rfl⟩ := List.mem_map.1 hr
    obtain ⟨hk2, hk3⟩ := List.mem_filter.1 hk1
    exact ⟨k, hk2, by simpa using hk3, rfl⟩
  refine ⟨fun r hr2 => ?_, fun r hr2 => ?_, ?_⟩
  · rcases List.mem_append.1 hr2 with h2 | h2
    · exact hr.end_ r h2
    · obtain ⟨k, hk1, _, rfl⟩ := hmem r h2
      have := hk k hk1
      have := this.l0; have := (hk k hk1).l1
      show 0 ≤ now + k.w.long ∧ now + k.w.long ≤ _
      omega
  · rcases List.mem_append.1 hr2 with h2 | h2
    · exact hr.up_ r h2
    · obtain ⟨k, hk1, _, rfl⟩ := hmem r h2
      exact (h.ok k hk1).up_
  · rw [List.pairwise_append]
    refine ⟨hr.apart, ?_, fun a ha b hb i hi h2 => ?_⟩
    · unfold ranP
      rw [List.pairwise_map]
      have hq := h.apart.filter (fun k => decide (k.x.at_ = now))
      refine hq.imp_of_mem fun {a b} ha hb hab i hi h2 => ?_
      obtain ⟨ha1, ha2⟩ := List.mem_filter.1 ha
      obtain ⟨hb1, hb2⟩ := List.mem_filter.1 hb
      simp only [decide_eq_true_eq] at ha2 hb2
      have := (hk a ha1).l0; have := (hk b hb1).l0
      exact hab (by omega) (by omega) i hi h2
    · obtain ⟨k, hk1, hk2, rfl⟩ := hmem b hb
      have h3 := (h.ok k hk1).runs a ha (by rw [hk2]; unfold until_; omega) i hi
      cases h4 : k.x.nodes.getLsbD i
      · rfl
      · rw [h3 h4] at h2; cases h2
/-- What was planned is there by itself, no later. -/
theorem holds_plan {up : NS} {now : Int} {rs : List Ru} {ws : List Wi} {σ : PS} {ks : List Kp} (h : PInv up now rs ws σ ks) (hr : RunsOk up rs) (hk : ∀ k ∈ ks, WiOk k.w) (h0 : 0 ≤ now) (h1 : now ≤ 1099511627776 - 1048576) (hl : rs.length + ks.length ≤ 2000)
    {k : Kp} (hk1 : k ∈ ks) (hk2 : ¬ k.x.at_ = now) : ∃ x, planO up (busyL now up (rs ++ ranP now ks)) now k.w = some x ∧ x.id = k.x.id ∧ x.at_ ≤ k.x.at_ := by
  have hro := ran_ok h hr hk h0 h1
  have hlen : (ranP now ks).length ≤ ks.length := by unfold ranP; rw [List.length_map]; exact List.length_filter_le _ _
  obtain ⟨b1, b2, _⟩ := busy_holds h0 (by omega) hro (by rw [List.length_append]; omega)
  have hw := hk k hk1
  have ho := h.ok k hk1
  have hl0 := hw.l0; have hge := ho.ge; have hle := ho.le
  have hwill : Will up (busyL now up (rs ++ ranP now ks)) 2199023255552 k.w.n k.w.long k.w.of k.x.at_ := by
    refine ⟨hle, ?_⟩
    rw [← ho.cnt]
    have hs : subS k.x.nodes (durS up (busyL now up (rs ++ ranP now ks)) k.x.at_ (k.x.at_ + k.w.long) &&& k.w.of) := by
      intro i hi h2
      rw [BitVec.getLsbD_and, Bool.and_eq_true]
      refine ⟨(durS_bit b1.prf hge (by omega) hi).2 ⟨ho.up_ i hi h2, fun t h3 h4 => (b2 t (by omega) (by omega) i hi).2 ⟨ho.up_ i hi h2, fun o ho2 h5 h6 => ?_⟩⟩, ho.of i hi h2⟩
      obtain ⟨r, hr2, rfl⟩ := List.mem_map.1 ho2
      rcases List.mem_append.1 hr2 with h7 | h7
      · exact ho.runs r h7 (by show k.x.at_ < until_ now r; have : t < until_ now r := h6; omega) i hi h2
      · obtain ⟨a, ha, rfl⟩ := List.mem_map.1 h7
        have hab := filter_pair (R := Apart) (fun _ _ h => h.symm) h.apart (fun k => decide (k.x.at_ = now)) a ha k (List.mem_filter.2 ⟨hk1, by simp [hk2]⟩)
        obtain ⟨ha1, ha2⟩ := List.mem_filter.1 ha
        simp only [decide_eq_true_eq] at ha2
        have hal := (hk a ha1).l0
        have h8 : t < max (now + a.w.long) (now + 1) := h6
        have h9 := hab (by omega) (by omega) i hi
        cases h10 : a.x.nodes.getLsbD i
        · rfl
        · rw [h9 h10] at h2; cases h2
    have := hs.cnt
    omega
  have hex : ∃ t, EarlAt up (busyL now up (rs ++ ranP now ks)) k.w.n k.w.long now k.w.of t ∧ t ≤ k.x.at_ := by
    have key : ∀ n : Nat, ∀ u, now ≤ u → u ≤ k.x.at_ → (u - now).toNat = n → Will up (busyL now up (rs ++ ranP now ks)) 2199023255552 k.w.n k.w.long k.w.of u → ∃ t, EarlAt up (busyL now up (rs ++ ranP now ks)) k.w.n k.w.long now k.w.of t ∧ t ≤ k.x.at_ := by
      intro n
      induction n using Nat.strongRecOn with
      | _ n ih =>
        intro u hu1 hu2 hu3 hu4
        by_cases hx : ∃ v, now ≤ v ∧ v < u ∧ Will up (busyL now up (rs ++ ranP now ks)) 2199023255552 k.w.n k.w.long k.w.of v
        · obtain ⟨v, hv1, hv2, hv3⟩ := hx
          exact ih (v - now).toNat (by omega) v hv1 (by omega) rfl hv3
        · exact ⟨u, ⟨hu1, hu4, fun v h2 h3 h4 => hx ⟨v, h2, h3, h4⟩⟩, hu2⟩
    exact key _ k.x.at_ hge (Int.le_refl _) rfl hwill
  obtain ⟨t, ht, htl⟩ := hex
  refine ⟨_, by unfold planO; rw [earlT_some ht]; rfl, ho.id.symm, htl⟩
end Go.Proofs.YtkgphbjneaagoaaDoor
