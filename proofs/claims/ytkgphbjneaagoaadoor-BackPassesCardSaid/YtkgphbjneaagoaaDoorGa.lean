/- Back: scenes as they are read; which may be, in plain. -/
import Derived.Test.YtkgphbjneaagoaaDoorYC
import Derived.Test.YtkgphbjneaagoaaDoorGm
import Derived.Test.YtkgphbjneaagoaaDoorRs
set_option linter.unusedVariables false
set_option maxRecDepth 100000
namespace Go.Proofs.YtkgphbjneaagoaaDoor
open Go.RowKit Go.Sort

abbrev ruL (r : Ru) : List Value := [.int .u64 (wn r.nodes 0 : Nat), .int .u64 (wn r.nodes 1 : Nat), .int .u64 (wn r.nodes 2 : Nat), .int .u64 (wn r.nodes 3 : Nat), .int .i64 r.end_]
abbrev ruA (r : Ru) : Array Value := #[.int .u64 (wn r.nodes 0 : Nat), .int .u64 (wn r.nodes 1 : Nat), .int .u64 (wn r.nodes 2 : Nat), .int .u64 (wn r.nodes 3 : Nat), .int .i64 r.end_]
abbrev ruV (r : Ru) : Value := .agg (ruA r)
abbrev wiL (w : Wi) : List Value := [.int .i64 w.id, .int .i64 w.n, .int .i64 w.long, .int .u64 (wn w.of 0 : Nat), .int .u64 (wn w.of 1 : Nat), .int .u64 (wn w.of 2 : Nat), .int .u64 (wn w.of 3 : Nat)]
abbrev wiA (w : Wi) : Array Value := #[.int .i64 w.id, .int .i64 w.n, .int .i64 w.long, .int .u64 (wn w.of 0 : Nat), .int .u64 (wn w.of 1 : Nat), .int .u64 (wn w.of 2 : Nat), .int .u64 (wn w.of 3 : Nat)]
abbrev wiV (w : Wi) : Value := .agg (wiA w)
abbrev plL (p : Pl) : List Value := [.int .i64 p.id, .int .i64 p.at_, .int .u64 (wn p.nodes 0 : Nat), .int .u64 (wn p.nodes 1 : Nat), .int .u64 (wn p.nodes 2 : Nat), .int .u64 (wn p.nodes 3 : Nat)]
abbrev plA (p : Pl) : Array Value := #[.int .i64 p.id, .int .i64 p.at_, .int .u64 (wn p.nodes 0 : Nat), .int .u64 (wn p.nodes 1 : Nat), .int .u64 (wn p.nodes 2 : Nat), .int .u64 (wn p.nodes 3 : Nat)]
abbrev plV (p : Pl) : Value := .agg (plA p)
/-- A scene's cells. -/
abbrev scA (now : Int) (up : NS) (A : Option Addr) (n c : Nat) (B : Option Addr) (m d : Nat) : Array Value := #[.int .i64 now, .int .u64 (wn up 0 : Nat), .int .u64 (wn up 1 : Nat), .int .u64 (wn up 2 : Nat), .int .u64 (wn up 3 : Nat), .slice A n c, .slice B m d]
abbrev scV (now : Int) (up : NS) (A : Option Addr) (n c : Nat) (B : Option Addr) (m d : Nat) : Value := .agg (scA now up A n c B m d)
abbrev RdR := RdS 5 ruL
abbrev RdW := RdS 7 wiL
abbrev RdPl := RdS 6 plL
/-- Which scenes may be. -/
structure RightP (now : Int) (up : NS) (rs : List Ru) (ws : List Wi) : Prop where
  n0 : 0 ≤ now
  n1 : now ≤ 1099511627776
  lr : rs.length ≤ 256
  lw : ws.length ≤ 1024
  runs : RunsOk up rs
  wish : WishOk ws
open Classical in
noncomputable def rightB (now : Int) (up : NS) (rs : List Ru) (ws : List Wi) : Bool := decide (RightP now up rs ws)
theorem rightB_yes {now : Int} {up : NS} {rs : List Ru} {ws : List Wi} (h : RightP now up rs ws) : rightB now up rs ws = true := by unfold rightB; simp [h]
theorem rightB_no {now : Int} {up : NS} {rs : List Ru} {ws : List Wi} (h : ¬ RightP now up rs ws) : rightB now up rs ws = false := by unfold rightB; simp [h]
/-- What is up, and what none of some runs on. -/
def leftS (up : NS) (rs : List Ru) : NS := rs.foldl (fun l r => notS l r.nodes) up
theorem leftS_snoc (up : NS) (rs : List Ru) (r : Ru) : leftS up (rs ++ [r]) = notS (leftS up rs) r.nodes := by unfold leftS; rw [List.foldl_append]; rfl
theorem leftS_bit (up : NS) {i : Nat} (hi : i < 256) : ∀ rs : List Ru, (leftS up rs).getLsbD i = true ↔ up.getLsbD i = true ∧ ∀ r ∈ rs, r.nodes.getLsbD i = false := by
  refine snoc_ind (by simp [leftS]) (fun rs r ih => ?_)
  rw [leftS_snoc, notS_bit _ _ _ hi, Bool.and_eq_true, ih]
  constructor
  · rintro ⟨⟨h1, h2⟩, h3⟩
    refine ⟨h1, fun x hx => ?_⟩
    rcases List.mem_append.1 hx with h4 | h4
    · exact h2 x h4
    · simp at h4; subst h4; simpa using h3
  · rintro ⟨h1, h2⟩
    exact ⟨⟨h1, fun x hx => h2 x (List.mem_append_left _ hx)⟩, by simp [h2 r (by simp)]⟩
theorem take_one {α : Type} {l : List α} {k : Nat} {x : α} (h : l[k]? = some x) : l.take (k + 1) = l.take k ++ [x] := by
  obtain ⟨h1, h2⟩ := List.getElem?_eq_some_iff.1 h
  rw [List.take_succ_eq_append_getElem h1, h2]
theorem take_sub {α : Type} (l : List α) (k : Nat) : ∀ x ∈ l.take k, x ∈ l := fun x hx => List.mem_of_mem_take hx
theorem RunsOk.take {up : NS} {rs : List Ru} (h : RunsOk up rs) (k : Nat) : RunsOk up (rs.take k) := ⟨fun r hr => h.end_ r (take_sub _ _ r hr), fun r hr => h.up_ r (take_sub _ _ r hr), h.apart.sublist (List.take_sublist _ _)⟩
theorem runs_step {up : NS} {rs : List Ru} {k : Nat} {r : Ru} (hr : rs[k]? = some r) (h : RunsOk up (rs.take k)) (h0 : 0 ≤ r.end_) (h1 : r.end_ ≤ 1099511627776) (hn : notS r.nodes (leftS up (rs.take k)) = emptyS) : RunsOk up (rs.take (k + 1)) := by
  have key : ∀ i, i < 256 → r.nodes.getLsbD i = true → up.getLsbD i = true ∧ ∀ x ∈ rs.take k, x.nodes.getLsbD i = false := fun i hi h2 => by
    have h3 : (notS r.nodes (leftS up (rs.take k))).getLsbD i = false := by rw [hn]; exact empty_bit i
    rw [notS_bit _ _ _ hi, h2, Bool.true_and] at h3
    exact (leftS_bit up hi _).1 (by simpa using h3)
  rw [take_one hr]
  refine ⟨fun x hx => ?_, fun x hx => ?_, ?_⟩
  · rcases List.mem_append.1 hx with h4 | h4
    · exact h.end_ x h4
    · simp at h4; subst h4; exact ⟨h0, h1⟩
  · rcases List.mem_append.1 hx with h4 | h4
    · exact h.up_ x h4
    · simp at h4; subst h4; exact fun i hi h2 => (key i hi h2).1
  · rw [List.pairwise_append]
    refine ⟨h.apart, List.pairwise_singleton _ _, fun a ha b hb i hi h2 => ?_⟩
    simp at hb; subst hb
    cases h3 : b.nodes.getLsbD i
    · rfl
    · rw [(key i hi h3).2 a ha] at h2; cases h2
theorem runs_bad1 {up : NS} {rs : List Ru} {k : Nat} {r : Ru} (hr : rs[k]? = some r) (h0 : r.end_ < 0 ∨ 1099511627776 < r.end_) : ¬ RunsOk up rs := fun h => by
  have := h.end_ r (List.mem_of_getElem? hr)
  omega
theorem runs_bad2 {up : NS} {rs : List Ru} {k : Nat} {r : Ru} (hr : rs[k]? = some r) (hn : ¬ notS r.nodes (leftS up (rs.take k)) = emptyS) : ¬ RunsOk up rs := fun h => hn (ns_ext fun i hi => by
  rw [notS_bit _ _ _ hi, empty_bit]
  cases h1 : r.nodes.getLsbD i
  · rfl
  · have h2 : (leftS up (rs.take k)).getLsbD i = true := by
      refine (leftS_bit up hi _).2 ⟨h.up_ r (List.mem_of_getElem? hr) i hi h1, fun x hx => ?_⟩
      have h3 := h.take (k + 1)
      rw [take_one hr] at h3
      have h4 := (List.pairwise_append.1 h3.apart).2.2 x hx r (by simp) i hi
      cases h5 : x.nodes.getLsbD i
      · rfl
      · rw [h4 h5] at h1; cases h1
    rw [h2]; rfl)
theorem WishOk.take {ws : List Wi} (h : WishOk ws) (k : Nat) : WishOk (ws.take k) := ⟨fun w hw => h.ok w (take_sub _ _ w hw), h.ids.sublist (List.take_sublist _ _)⟩
theorem wish_step {ws : List Wi} {k : Nat} {w : Wi} (hw : ws[k]? = some w) (h : WishOk (ws.take k)) (ho : WiOk w) (hn : ¬ w.id ∈ (ws.take k).map Wi.id) : WishOk (ws.take (k + 1)) := by
  rw [take_one hw]
  refine ⟨fun x hx => ?_, ?_⟩
  · rcases List.mem_append.1 hx with h4 | h4
    · exact h.ok x h4
    · simp at h4; subst h4; exact ho
  · rw [List.pairwise_append]
    refine ⟨h.ids, List.pairwise_singleton _ _, fun a ha b hb e => ?_⟩
    simp at hb; subst hb
    exact hn (List.mem_map.2 ⟨a, ha, e⟩)
theorem wish_bad1 {ws : List Wi} {k : Nat} {w : Wi} (hw : ws[k]? = some w) (h : ¬ WiOk w) : ¬ WishOk ws := fun h1 => h (h1.ok w (List.mem_of_getElem? hw))
theorem wish_bad2 {ws : List Wi} {k : Nat} {w : Wi} (hw : ws[k]? = some w) (h : w.id ∈ (ws.take k).map Wi.id) : ¬ WishOk ws := fun h1 => by
  have h2 := h1.take (k + 1)
  rw [take_one hw] at h2
  obtain ⟨a, ha, e⟩ := List.mem_map.1 h
  exact (List.pairwise_append.1 h2.ids).2.2 a ha w (by simp) e
end Go.Proofs.YtkgphbjneaagoaaDoor
