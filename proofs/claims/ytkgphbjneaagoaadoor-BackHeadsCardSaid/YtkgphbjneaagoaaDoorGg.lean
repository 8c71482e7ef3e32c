/- Back: a pass, step by step, in plain; keep and plan over it. -/
import Derived.Test.YtkgphbjneaagoaaDoorGf
set_option linter.unusedVariables false
set_option maxRecDepth 100000
namespace Go.Proofs.YtkgphbjneaagoaaDoor
open Go.RowKit Go.Sort

theorem keep_l (up : NS) (now : Int) (σ : PS) (w : Wi) (x : Pl) : (σ.keep up now w x).l = takeL up σ.l now x.at_ (x.at_ + w.long) x.nodes := by unfold PS.keep; split <;> rfl
theorem keep_s (up : NS) (now : Int) (σ : PS) (w : Wi) (x : Pl) : (σ.keep up now w x).s = if x.at_ = now then σ.s ++ [x] else σ.s := by unfold PS.keep; split <;> rfl
theorem keep_p (up : NS) (now : Int) (σ : PS) (w : Wi) (x : Pl) : (σ.keep up now w x).p = if x.at_ = now then σ.p else σ.p ++ [x] := by unfold PS.keep; split <;> rfl
theorem keep_stop (up : NS) (now : Int) (σ : PS) (w : Wi) (x : Pl) : (σ.keep up now w x).stop = σ.stop := by unfold PS.keep; split <;> rfl
theorem step_goo {mode : Int} {up : NS} {now : Int} {σ : PS} (w : Wi) (h : Goo now σ.l) : Goo now (stepP mode up now σ w).l := by
  have hk : ∀ x, Goo now (σ.keep up now w x).l := fun x => by rw [keep_l]; exact h.take
  unfold stepP
  split
  · exact h
  · split
    · split
      · exact hk _
      · split
        · exact h
        · split
          · exact hk _
          · exact h
    · split
      · exact h
      · exact h
theorem step_len {mode : Int} {up : NS} {now : Int} {σ : PS} (w : Wi) : (stepP mode up now σ w).s.length ≤ σ.s.length + 1 ∧ (stepP mode up now σ w).p.length ≤ σ.p.length + 1 := by
  have hk : ∀ x, (σ.keep up now w x).s.length ≤ σ.s.length + 1 ∧ (σ.keep up now w x).p.length ≤ σ.p.length + 1 := fun x => by
    rw [keep_s, keep_p]
    split <;> simp
  unfold stepP
  split
  · omega
  · split
    · split
      · exact hk _
      · split
        · exact ⟨Nat.le_succ _, Nat.le_succ _⟩
        · split
          · exact hk _
          · exact ⟨Nat.le_succ _, Nat.le_succ _⟩
    · split
      · exact ⟨Nat.le_succ _, Nat.le_succ _⟩
      · exact ⟨Nat.le_succ _, Nat.le_succ _⟩
theorem pass_goo {mode : Int} {up : NS} {now : Int} (h0 : 0 ≤ now) (h1 : now ≤ 1099511627776) (rs : List Ru) : ∀ ws : List Wi, Goo now (passP mode up now rs ws).l ∧ (passP mode up now rs ws).s.length ≤ ws.length ∧ (passP mode up now rs ws).p.length ≤ ws.length := by
  refine snoc_ind ⟨busy_goo h0 h1 rs, Nat.zero_le _, Nat.zero_le _⟩ (fun ws w ih => ?_)
  have he : passP mode up now rs (ws ++ [w]) = stepP mode up now (passP mode up now rs ws) w := by unfold passP; rw [List.foldl_append]; rfl
  rw [he, List.length_append]
  have := step_len (mode := mode) (up := up) (now := now) (σ := passP mode up now rs ws) w
  simp only [List.length_cons, List.length_nil]
  exact ⟨step_goo w ih.1, by omega, by omega⟩
/-- A pass, as far as it goes: its states. -/
structure Walk (mode : Int) (up : NS) (now : Int) (rs : List Ru) (ws : List Wi) (F : Nat → PS) : Prop where
  zero : F 0 = startP now up rs
  step : ∀ k x, ws[k]? = some x → F (k + 1) = stepP mode up now (F k) x
  goo : ∀ k, Goo now (F k).l
  len : ∀ k, (F k).s.length ≤ ws.length ∧ (F k).p.length ≤ ws.length
  last : F ws.length = passP mode up now rs ws
  stop : ∀ k, (F k).stop = true → F k = passP mode up now rs ws
theorem walk_of (mode : Int) (up : NS) (now : Int) (rs : List Ru) (ws : List Wi) (h0 : 0 ≤ now) (h1 : now ≤ 1099511627776) : ∃ F, Walk mode up now rs ws F := by
  refine ⟨fun k => passP mode up now rs (ws.take k), ?_, ?_, ?_, ?_, ?_, ?_⟩
  · simp [passP]
  · intro k x hx
    show passP _ _ _ _ _ = _
    rw [take_one hx]
    unfold passP
    rw [List.foldl_append]; rfl
  · exact fun k => (pass_goo h0 h1 rs _).1
  · intro k
    have := (pass_goo (mode := mode) (up := up) h0 h1 rs (ws.take k)).2
    have h2 : (ws.take k).length ≤ ws.length := List.length_take_le' _ _
    exact ⟨by omega, by omega⟩
  · simp
  · intro k hk
    show passP mode up now rs (ws.take k) = _
    have e : passP mode up now rs ws = (ws.drop k).foldl (stepP mode up now) (passP mode up now rs (ws.take k)) := by
      unfold passP
      rw [← List.foldl_append, List.take_append_drop]
    rw [e, fold_stop _ hk]
/-- What a plan is: none, now, later. -/
theorem plan_at {up : NS} {l : List (Sp NS)} {now : Int} {x : Wi} {y : Pl} (hG : Goo now l) (hx : WiOk x) (h : planO up l now x = some y) : now ≤ y.at_ ∧ y.at_ ≤ 2199023255552 := by
  have := (planO_ok hG hx h).1
  have h1 := this.ge; have h2 := this.le; have := hx.l0
  omega
theorem keep_f (q g : Nat) (now : Int) (up : NS) (A : Option Addr) (c : Nat) (As : Option Addr) (cs : Nat) (Ap : Option Addr) (cp : Nat) (σ : PS) (x : Pl) (y : Wi) (w : World)
    (h : (Own.all (psO q g now up A c σ.l As cs σ.s Ap cp σ.p)).ok w) (hG : Goo now σ.l) (hy : WiOk y) (hx : planO up σ.l now y = some x) (h0 : 0 ≤ now) (hS : σ.s.length ≤ 1024) (hT : σ.p.length ≤ 1024) :
    Calls Tryd.prog 28 #[.pointer (some ⟨q, 0, none⟩), plV x, wiV y] w fun e w' => ∃ A' c' As' cs' Ap' cp', e = .returned (.tuple #[]) ∧ Ms w (Own.all (psO q g now up A c σ.l As cs σ.s Ap cp σ.p)).bl [.all (psO q g now up A' c' (σ.keep up now y x).l As' cs' (σ.keep up now y x).s Ap' cp' (σ.keep up now y x).p)] w' := by
  have h1 := plan_at hG hy hx
  have h2 := hy.l0; have h3 := hy.l1
  refine (keep_w q g now up A c σ.l As cs σ.s Ap cp σ.p x y w h hG (by omega) (by omega) h2 (by omega) hS hT).mono ?_
  rintro e w' ⟨he, A', c', As', cs', Ap', cp', hM⟩
  refine ⟨A', c', As', cs', Ap', cp', he, ?_⟩
  rw [keep_l, keep_s, keep_p]
  exact hM
/-- One step: what the code asks. -/
theorem step_now {mode : Int} {up : NS} {now : Int} {σ : PS} {y : Wi} {x : Pl} (hs : σ.stop = false) (hx : planO up σ.l now y = some x) (ha : x.at_ = now) : stepP mode up now σ y = σ.keep up now y x := by
  unfold stepP; rw [if_neg (by rw [hs]; decide), hx]; simp only; rw [if_pos ha]
theorem step_end {up : NS} {now : Int} {σ : PS} {y : Wi} {x : Pl} (hs : σ.stop = false) (hx : planO up σ.l now y = some x) (ha : ¬ x.at_ = now) : stepP 0 up now σ y = { σ with stop := true } := by
  unfold stepP; rw [if_neg (by rw [hs]; decide), hx]; simp only; rw [if_neg ha]; simp
theorem step_keep {mode : Int} {up : NS} {now : Int} {σ : PS} {y : Wi} {x : Pl} (hs : σ.stop = false) (hx : planO up σ.l now y = some x) (ha : ¬ x.at_ = now) (hm : ¬ mode = 0) (hk : keeps mode σ.p = true) : stepP mode up now σ y = σ.keep up now y x := by
  unfold stepP; rw [if_neg (by rw [hs]; decide), hx]; simp only; rw [if_neg ha, if_neg hm, if_pos hk]
theorem step_skip {mode : Int} {up : NS} {now : Int} {σ : PS} {y : Wi} {x : Pl} (hs : σ.stop = false) (hx : planO up σ.l now y = some x) (ha : ¬ x.at_ = now) (hm : ¬ mode = 0) (hk : keeps mode σ.p = false) : stepP mode up now σ y = σ := by
  unfold stepP; rw [if_neg (by rw [hs]; decide), hx]; simp only; rw [if_neg ha, if_neg hm, if_neg (by rw [hk]; decide)]
theorem step_none0 {up : NS} {now : Int} {σ : PS} {y : Wi} (hs : σ.stop = false) (hx : planO up σ.l now y = none) : stepP 0 up now σ y = { σ with stop := true } := by
  unfold stepP; rw [if_neg (by rw [hs]; decide), hx]; simp
theorem step_none {mode : Int} {up : NS} {now : Int} {σ : PS} {y : Wi} (hs : σ.stop = false) (hx : planO up σ.l now y = none) (hm : ¬ mode = 0) : stepP mode up now σ y = σ := by
  unfold stepP; rw [if_neg (by rw [hs]; decide), hx]; simp only; rw [if_neg hm]
end Go.Proofs.YtkgphbjneaagoaaDoor
