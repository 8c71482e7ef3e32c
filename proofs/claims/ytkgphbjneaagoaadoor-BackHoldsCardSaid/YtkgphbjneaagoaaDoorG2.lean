/- Back: a pass in plain: what it keeps, and what that is. No program in sight. -/
import Derived.Test.YtkgphbjneaagoaaDoorG1
set_option linter.unusedVariables false
namespace Go.Proofs.YtkgphbjneaagoaaDoor
open Go.RowKit Go.Sort

theorem snoc_ind {α : Type} {P : List α → Prop} (h0 : P []) (h1 : ∀ l a, P l → P (l ++ [a])) : ∀ l, P l := by
  have key : ∀ n, ∀ l : List α, l.length = n → P l := by
    intro n
    induction n with
    | zero => intro l hl; rw [List.eq_nil_of_length_eq_zero hl]; exact h0
    | succ n ih =>
      intro l hl
      rcases List.eq_nil_or_concat l with rfl | ⟨k, a, rfl⟩
      · simp at hl
      · rw [List.concat_eq_append] at hl ⊢
        exact h1 k a (ih k (by simpa using hl))
  exact fun l => key l.length l rfl
/-- What a pass has under way. -/
structure PS where
  l : List (Sp NS)
  s : List Pl
  p : List Pl
  stop : Bool
/-- A plan is kept. -/
def PS.keep (up : NS) (now : Int) (σ : PS) (w : Wi) (x : Pl) : PS :=
  if x.at_ = now then { σ with l := takeL up σ.l now x.at_ (x.at_ + w.long) x.nodes, s := σ.s ++ [x] } else { σ with l := takeL up σ.l now x.at_ (x.at_ + w.long) x.nodes, p := σ.p ++ [x] }
/-- Does a mode keep a plan that does not begin now? -/
def keeps (mode : Int) (p : List Pl) : Bool := if mode = 1 then p.isEmpty else true
noncomputable def stepP (mode : Int) (up : NS) (now : Int) (σ : PS) (w : Wi) : PS :=
  if σ.stop = true then σ else
  match planO up σ.l now w with
  | some x => if x.at_ = now then σ.keep up now w x else if mode = 0 then { σ with stop := true } else if keeps mode σ.p = true then σ.keep up now w x else σ
  | none => if mode = 0 then { σ with stop := true } else σ
def startP (now : Int) (up : NS) (rs : List Ru) : PS := ⟨busyL now up rs, [], [], false⟩
noncomputable def passP (mode : Int) (up : NS) (now : Int) (rs : List Ru) (ws : List Wi) : PS := ws.foldl (stepP mode up now) (startP now up rs)
theorem stepP_stop {mode : Int} {up : NS} {now : Int} {σ : PS} (w : Wi) (h : σ.stop = true) : stepP mode up now σ w = σ := by unfold stepP; rw [if_pos h]
theorem fold_stop {mode : Int} {up : NS} {now : Int} : ∀ (ws : List Wi) {σ : PS}, σ.stop = true → ws.foldl (stepP mode up now) σ = σ
  | [], _, _ => rfl
  | w :: ws, σ, h => by rw [List.foldl_cons, stepP_stop w h]; exact fold_stop ws h

/-! ### scenes that may be -/
/-- Jobs that run: none of them on another's nodes, all on nodes that are up. -/
structure RunsOk (up : NS) (rs : List Ru) : Prop where
  end_ : ∀ r ∈ rs, 0 ≤ r.end_ ∧ r.end_ ≤ 1099511627776
  up_ : ∀ r ∈ rs, subS r.nodes up
  apart : rs.Pairwise fun a b => ∀ i, i < 256 → a.nodes.getLsbD i = true → b.nodes.getLsbD i = false
structure WishOk (ws : List Wi) : Prop where
  ok : ∀ w ∈ ws, WiOk w
  ids : ws.Pairwise fun a b => a.id ≠ b.id
def occR (now : Int) (rs : List Ru) : List Oc := rs.map fun r => ⟨r.nodes, now, until_ now r⟩
/-- The profile of what runs tells what runs. -/
theorem busy_holds {now : Int} {up : NS} (h0 : 0 ≤ now) (h1 : now ≤ 1099511627776) : ∀ {rs : List Ru}, RunsOk up rs → rs.length ≤ 2000 → Goo now (busyL now up rs) ∧ Holds now up (busyL now up rs) (occR now rs) ∧ (busyL now up rs).length ≤ 1 + 2 * rs.length := by
  intro rs
  refine snoc_ind (P := fun rs => RunsOk up rs → rs.length ≤ 2000 → Goo now (busyL now up rs) ∧ Holds now up (busyL now up rs) (occR now rs) ∧ (busyL now up rs).length ≤ 1 + 2 * rs.length) ?_ ?_ rs
  · exact fun _ _ => ⟨goo_one now up h0 (by omega), holds_one now up, by simp [busyL]⟩
  · intro rs r ih h hl
    have hr : RunsOk up rs := ⟨fun x hx => h.end_ x (List.mem_append_left _ hx), fun x hx => h.up_ x (List.mem_append_left _ hx), (List.pairwise_append.1 h.apart).1⟩
    simp only [List.length_append, List.length_cons, List.length_nil] at hl
    obtain ⟨i1, i2, i3⟩ := ih hr (by omega)
    have he : busyL now up (rs ++ [r]) = takeL up (busyL now up rs) now now (until_ now r) r.nodes := by unfold busyL; rw [List.foldl_append]; rfl
    have hend := h.end_ r (by simp)
    have hlt : now < until_ now r := by unfold until_; omega
    have hle : until_ now r ≤ 2199023255552 := by unfold until_; omega
    obtain ⟨_, hz⟩ := take_ok (up := up) i1 (Int.le_refl _) hlt hle (h.up_ r (by simp)) (fun t h2 h3 b hb h4 => (i2 t h2 (by omega) b hb).2 ⟨h.up_ r (by simp) b hb h4, fun o ho h5 h6 => by
      obtain ⟨x, hx, rfl⟩ := List.mem_map.1 ho
      have h7 := (List.pairwise_append.1 h.apart).2.2 x hx r (by simp) b hb
      cases h8 : x.nodes.getLsbD b
      · rfl
      · rw [h7 h8] at h4; cases h4⟩) (by omega)
    rw [he]
    refine ⟨i1.take, ?_, ?_⟩
    · have := i2.take i1 hlt hz
      unfold occR at this ⊢
      rw [List.map_append]
      exact this
    · have := take_len i1 hlt hz
      simp only [List.length_append, List.length_cons, List.length_nil]
      omega

/-! ### what is kept -/
structure Kp where
  x : Pl
  w : Wi
def occK (ks : List Kp) : List Oc := ks.map fun k => ⟨k.x.nodes, k.x.at_, k.x.at_ + k.w.long⟩
/-- Two that meet in time have no node in common. -/
def Apart (a b : Kp) : Prop := a.x.at_ < b.x.at_ + b.w.long → b.x.at_ < a.x.at_ + a.w.long → ∀ i, i < 256 → a.x.nodes.getLsbD i = true → b.x.nodes.getLsbD i = false
structure KpOk (now : Int) (up : NS) (rs : List Ru) (k : Kp) : Prop where
  id : k.x.id = k.w.id
  ge : now ≤ k.x.at_
  le : k.x.at_ + k.w.long ≤ 2199023255552
  cnt : ((Go.Proofs.YtkgphbjneaagoaaDoor.cnt k.x.nodes : Nat) : Int) = k.w.n
  of : subS k.x.nodes k.w.of
  up_ : subS k.x.nodes up
  runs : ∀ r ∈ rs, k.x.at_ < until_ now r → ∀ i, i < 256 → k.x.nodes.getLsbD i = true → r.nodes.getLsbD i = false
structure PInv (up : NS) (now : Int) (rs : List Ru) (ws : List Wi) (σ : PS) (ks : List Kp) : Prop where
  goo : Goo now σ.l
  len : σ.l.length ≤ 1 + 2 * (rs.length + ks.length)
  holds : Holds now up σ.l (occR now rs ++ occK ks)
  sub : (ks.map Kp.w).Sublist ws
  ok : ∀ k ∈ ks, KpOk now up rs k
  apart : ks.Pairwise Apart
  s : σ.s = (ks.filter fun k => decide (k.x.at_ = now)).map Kp.x
  p : σ.p = (ks.filter fun k => !decide (k.x.at_ = now)).map Kp.x
theorem start_inv {up : NS} {now : Int} {rs : List Ru} (h0 : 0 ≤ now) (h1 : now ≤ 1099511627776) (hr : RunsOk up rs) (hl : rs.length ≤ 2000) : PInv up now rs [] (startP now up rs) [] := by
  obtain ⟨a, b, c⟩ := busy_holds h0 h1 hr hl
  exact ⟨a, (by show (busyL now up rs).length ≤ _; simpa using c), (by show Holds now up (busyL now up rs) _; simpa [occK] using b), List.Sublist.refl _, (fun k hk => by cases hk), List.Pairwise.nil, rfl, rfl⟩
theorem PInv.skip {up : NS} {now : Int} {rs : List Ru} {ws : List Wi} {σ : PS} {ks : List Kp} (h : PInv up now rs ws σ ks) (w : Wi) (b : Bool) : PInv up now rs (ws ++ [w]) { σ with stop := b } ks :=
  ⟨h.goo, h.len, h.holds, h.sub.trans (List.sublist_append_left _ _), h.ok, h.apart, h.s, h.p⟩
/-- What a plan's nodes have in common with what is taken: nothing, where they meet in time. -/
theorem plan_apart {up : NS} {now : Int} {l : List (Sp NS)} {occ : List Oc} {w : Wi} {x : Pl} (hH : Holds now up l occ) (hx : PlanOk now up l w x) (hw : WiOk w) {o : Oc} (ho : o ∈ occ) (h1 : o.lo < x.at_ + w.long) (h2 : x.at_ < o.hi) (h3 : o.lo < o.hi) : ∀ i, i < 256 → x.nodes.getLsbD i = true → o.s.getLsbD i = false := by
  intro i hi h4
  have hge := hx.ge
  have hle := hx.le
  have hl := hw.l0
  have h5 := hx.free (max x.at_ o.lo) (by omega) (by omega) i hi h4
  exact ((hH (max x.at_ o.lo) (by omega) (by omega) i hi).1 h5).2 o ho (by omega) (by omega)
theorem PInv.keep {up : NS} {now : Int} {rs : List Ru} {ws : List Wi} {σ : PS} {ks : List Kp} (h : PInv up now rs ws σ ks) {w : Wi} {x : Pl} (hw : WiOk w) (hx : planO up σ.l now w = some x) (hl : rs.length + ks.length ≤ 2000) (hk : ∀ k ∈ ks, WiOk k.w) :
    PInv up now rs (ws ++ [w]) (σ.keep up now w x) (ks ++ [⟨x, w⟩]) := by
  obtain ⟨hp, _⟩ := planO_ok h.goo hw hx
  have hlen := h.len
  obtain ⟨_, hz⟩ := hp.take h.goo hw (by omega)
  have hl0 := hw.l0
  have e : (σ.keep up now w x).l = takeL up σ.l now x.at_ (x.at_ + w.long) x.nodes := by unfold PS.keep; split <;> rfl
  refine ⟨?_, ?_, ?_, ?_, ?_, ?_, ?_, ?_⟩
  · rw [e]; exact h.goo.take
  · rw [e]
    have := take_len h.goo (by omega) hz
    simp only [List.length_append, List.length_cons, List.length_nil]
    omega
  · rw [e]
    have h2 := h.holds.take h.goo (by omega) hz
    have e2 : occR now rs ++ occK (ks ++ [⟨x, w⟩]) = occR now rs ++ occK ks ++ [⟨x.nodes, x.at_, x.at_ + w.long⟩] := by simp [occK]
    rw [e2]
    exact h2
  · rw [List.map_append]
    exact h.sub.append (List.Sublist.refl _)
  · intro k hk2
    rcases List.mem_append.1 hk2 with h3 | h3
    · exact h.ok k h3
    · simp at h3
      subst h3
      refine ⟨hp.id, hp.ge, hp.le, hp.cnt, hp.of, hp.up_, fun r hr h4 => ?_⟩
      have hge := hp.ge
      exact plan_apart h.holds hp hw (o := ⟨r.nodes, now, until_ now r⟩) (List.mem_append_left _ (List.mem_map.2 ⟨r, hr, rfl⟩)) (by show now < _; omega) h4 (by show now < until_ now r; unfold until_; omega)
  · rw [List.pairwise_append]
    refine ⟨h.apart, List.pairwise_singleton _ _, fun a ha b hb => ?_⟩
    simp at hb
    subst hb
    intro h4 h5 i hi h6
    have ha2 := hk a ha
    have hl2 := ha2.l0
    have h7 := plan_apart h.holds hp hw (o := ⟨a.x.nodes, a.x.at_, a.x.at_ + a.w.long⟩) (List.mem_append_right _ (List.mem_map.2 ⟨a, ha, rfl⟩)) h4 h5 (by show a.x.at_ < a.x.at_ + a.w.long; omega) i hi
    cases h8 : x.nodes.getLsbD i
    · rfl
    · have := h7 h8
      simp only at this
      rw [this] at h6; cases h6
  · unfold PS.keep
    by_cases h4 : x.at_ = now
    · rw [if_pos h4, List.filter_append, List.map_append]
      simp [h4, h.s]
    · rw [if_neg h4, List.filter_append, List.map_append]
      simp [h4, h.s]
  · unfold PS.keep
    by_cases h4 : x.at_ = now
    · rw [if_pos h4, List.filter_append, List.map_append]
      simp [h4, h.p]
    · rw [if_neg h4, List.filter_append, List.map_append]
      simp [h4, h.p]
theorem step_inv {mode : Int} {up : NS} {now : Int} {rs : List Ru} {ws : List Wi} {σ : PS} {ks : List Kp} (h : PInv up now rs ws σ ks) {w : Wi} (hw : WiOk w) (hl : rs.length + ks.length ≤ 2000) (hk : ∀ k ∈ ks, WiOk k.w) :
    PInv up now rs (ws ++ [w]) (stepP mode up now σ w) ks ∨ ∃ x, PInv up now rs (ws ++ [w]) (stepP mode up now σ w) (ks ++ [⟨x, w⟩]) := by
  have hs : PInv up now rs (ws ++ [w]) σ ks := h.skip w σ.stop
  unfold stepP
  split
  · exact .inl hs
  · split
    · rename_i x hx
      split
      · exact .inr ⟨x, h.keep hw hx hl hk⟩
      · split
        · exact .inl (h.skip w true)
        · split
          · exact .inr ⟨x, h.keep hw hx hl hk⟩
          · exact .inl hs
    · split
      · exact .inl (h.skip w true)
      · exact .inl hs
theorem pass_inv {mode : Int} {up : NS} {now : Int} {rs : List Ru} (h0 : 0 ≤ now) (h1 : now ≤ 1099511627776) (hr : RunsOk up rs) : ∀ {ws : List Wi}, WishOk ws → rs.length + ws.length ≤ 2000 → ∃ ks, PInv up now rs ws (passP mode up now rs ws) ks := by
  intro ws
  refine snoc_ind (P := fun ws => WishOk ws → rs.length + ws.length ≤ 2000 → ∃ ks, PInv up now rs ws (passP mode up now rs ws) ks) ?_ ?_ ws
  · exact fun hw hl => ⟨[], start_inv h0 h1 hr (by simpa using hl)⟩
  · intro ws w ih hw hl
    simp only [List.length_append, List.length_cons, List.length_nil] at hl
    obtain ⟨ks, hi⟩ := ih ⟨fun x hx => hw.ok x (List.mem_append_left _ hx), (List.pairwise_append.1 hw.ids).1⟩ (by omega)
    have hks : ks.length ≤ ws.length := by simpa using hi.sub.length_le
    have hkw : ∀ k ∈ ks, WiOk k.w := fun k hk => hw.ok k.w (List.mem_append_left _ (hi.sub.subset (List.mem_map.2 ⟨k, hk, rfl⟩)))
    have he : passP mode up now rs (ws ++ [w]) = stepP mode up now (passP mode up now rs ws) w := by unfold passP; rw [List.foldl_append]; rfl
    rw [he]
    rcases step_inv (mode := mode) hi (hw.ok w (by simp)) (by omega) hkw with h2 | ⟨x, h2⟩
    · exact ⟨ks, h2⟩
    · exact ⟨_, h2⟩
end Go.Proofs.YtkgphbjneaagoaaDoor
