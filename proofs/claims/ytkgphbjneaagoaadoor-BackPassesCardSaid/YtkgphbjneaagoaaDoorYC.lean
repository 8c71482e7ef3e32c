/- Back: plain facts: what is taken of a profile, spans that are kept, plans. No program in sight. | Back: a pass in plain: what it keeps, and what that is. No program in sight. | Back: what the laws say of passes, in plain. No program in sight. -/
import Derived.Test.YtkgphbjneaagoaaDoorFf
set_option linter.unusedVariables false
namespace Go.Proofs.YtkgphbjneaagoaaDoor
open Go.RowKit Go.Sort

/-- A profile that a pass has: not too long. -/
structure Goo (t0 : Int) (l : List (Sp NS)) : Prop where
  len : l.length ≤ 4096
  prf : Prf t0 2199023255552 l
  low : 0 ≤ t0
theorem Goo.ok {w : World} {g : Nat} {nodes : NS} {A : Option Addr} {c : Nat} {l : List (Sp NS)} {t0 : Int} (h : Goo t0 l) (ho : (Own.pf g nodes A c l).ok w) : PfOk w g nodes A c l t0 := ⟨ho, by have := h.len; omega, h.prf, h.low⟩
theorem takeE_zero' {nodes : NS} {l : List (Sp NS)} {t0 lo hi : Int} {s : NS} (h : takeE nodes l t0 lo hi s = 0) : spanE t0 lo hi = 0 ∧ notS s nodes = emptyS ∧ notS s (durS nodes l lo hi) = emptyS ∧ (turnL 2199023255552 lo hi (fun f => notS f s) [] l).length ≤ 4096 := by
  unfold takeE at h
  rcases spanE_cases t0 lo hi with h1 | h1
  · rw [if_neg (by omega)] at h
    by_cases h2 : notS s nodes = emptyS
    · rw [if_neg (fun h => h h2)] at h
      by_cases h3 : notS s (durS nodes l lo hi) = emptyS
      · rw [if_neg (fun h => h h3)] at h
        split at h
        · omega
        · exact ⟨h1, h2, h3, by omega⟩
      · rw [if_pos h3] at h; omega
    · rw [if_pos h2] at h; omega
  · rw [if_pos h1] at h; omega
theorem Goo.take {t0 : Int} {nodes : NS} {l : List (Sp NS)} {lo hi : Int} {s : NS} (h : Goo t0 l) : Goo t0 (takeL nodes l t0 lo hi s) := by
  unfold takeL
  by_cases h1 : takeE nodes l t0 lo hi s = 0
  · rw [if_pos h1]
    have h2 := takeE_zero' h1
    exact ⟨h2.2.2.2, (turn_prf (d := emptyS) h.prf (spanE_zero h2.1).2.1).1, h.low⟩
  · rw [if_neg h1]; exact h
theorem goo_one (t0 : Int) (nodes : NS) (h0 : 0 ≤ t0) (h1 : t0 < 2199023255552) : Goo t0 [⟨t0, nodes⟩] := ⟨by simp, ⟨trivial, by intro s hs; simp at hs; subst hs; exact h1, ⟨t0, nodes⟩, [], rfl, rfl⟩, h0⟩
/-- Some nodes, from a time to another. -/
structure Oc where
  s : NS
  lo : Int
  hi : Int
/-- Is a node free at a time, of some, when some spans are taken? -/
def FreeB (up : NS) (occ : List Oc) (t : Int) (b : Nat) : Prop := up.getLsbD b = true ∧ ∀ o ∈ occ, o.lo ≤ t → t < o.hi → o.s.getLsbD b = false
/-- The profile tells what these spans leave. -/
def Holds (t0 : Int) (up : NS) (l : List (Sp NS)) (occ : List Oc) : Prop := ∀ t, t0 ≤ t → t < 2199023255552 → ∀ b, b < 256 → ((frA emptyS l t).getLsbD b = true ↔ FreeB up occ t b)
theorem holds_one (t0 : Int) (up : NS) : Holds t0 up [⟨t0, up⟩] [] := fun t h1 h2 b hb => ⟨fun h => ⟨h, fun o ho => by cases ho⟩, fun h => h.1⟩
theorem frA_sub {t0 : Int} {up : NS} {l : List (Sp NS)} {occ : List Oc} (hH : Holds t0 up l occ) {t : Int} (h1 : t0 ≤ t) (h2 : t < 2199023255552) : subS (frA emptyS l t) up := fun b hb h => ((hH t h1 h2 b hb).1 h).1
/-- What may be taken is taken. -/
theorem take_ok {t0 : Int} {up : NS} {l : List (Sp NS)} {lo hi : Int} {s : NS} (hG : Goo t0 l) (h0 : t0 ≤ lo) (h1 : lo < hi) (h2 : hi ≤ 2199023255552) (hu : subS s up) (hf : ∀ t, lo ≤ t → t < hi → subS s (frA emptyS l t)) (hl : l.length ≤ 4094) :
    takeE up l t0 lo hi s = 0 ∧ takeL up l t0 lo hi s = turnL 2199023255552 lo hi (fun f => notS f s) [] l := by
  have e : ∀ x y : NS, subS x y → notS x y = emptyS := fun x y h => ns_ext fun b hb => by
    rw [notS_bit _ _ _ hb, empty_bit]
    cases h1 : x.getLsbD b
    · rfl
    · rw [h b hb h1]; rfl
  have hz : takeE up l t0 lo hi s = 0 := by
    unfold takeE
    have hs : spanE t0 lo hi = 0 := by unfold spanE; rw [if_neg (by omega)]
    rw [if_neg (by omega), if_neg (fun h => h (e _ _ hu)), if_neg (fun h => h (e _ _ (fun b hb h3 => (durS_bit hG.prf h0 h1 hb).2 ⟨hu b hb h3, fun t h4 h5 => hf t h4 h5 b hb h3⟩))), if_neg]
    have := (turn_prf (d := emptyS) (do_ := fun f => notS f s) hG.prf h1).2.2
    omega
  exact ⟨hz, by unfold takeL; rw [if_pos hz]⟩
theorem Holds.take {t0 : Int} {up : NS} {l : List (Sp NS)} {occ : List Oc} {lo hi : Int} {s : NS} (hH : Holds t0 up l occ) (hG : Goo t0 l) (h1 : lo < hi) (hz : takeL up l t0 lo hi s = turnL 2199023255552 lo hi (fun f => notS f s) [] l) :
    Holds t0 up (takeL up l t0 lo hi s) (occ ++ [⟨s, lo, hi⟩]) := by
  intro t h3 h4 b hb
  rw [hz, (turn_prf (d := emptyS) (do_ := fun f => notS f s) hG.prf h1).2.1 t h3 h4]
  unfold turnF
  by_cases h5 : lo ≤ t ∧ t < hi
  · rw [if_pos h5, notS_bit _ _ _ hb, Bool.and_eq_true, hH t h3 h4 b hb]
    constructor
    · rintro ⟨h6, h7⟩
      refine ⟨h6.1, fun o ho h8 h9 => ?_⟩
      rcases List.mem_append.1 ho with h10 | h10
      · exact h6.2 o h10 h8 h9
      · simp at h10; subst h10; simpa using h7
    · intro h6
      refine ⟨⟨h6.1, fun o ho => h6.2 o (List.mem_append_left _ ho)⟩, ?_⟩
      have := h6.2 ⟨s, lo, hi⟩ (by simp) h5.1 h5.2
      simp [this]
  · rw [if_neg h5, hH t h3 h4 b hb]
    constructor
    · intro h6
      refine ⟨h6.1, fun o ho h8 h9 => ?_⟩
      rcases List.mem_append.1 ho with h10 | h10
      · exact h6.2 o h10 h8 h9
      · simp at h10; subst h10; exact absurd ⟨h8, h9⟩ h5
    · intro h6
      exact ⟨h6.1, fun o ho => h6.2 o (List.mem_append_left _ ho)⟩
theorem take_len {t0 : Int} {up : NS} {l : List (Sp NS)} {lo hi : Int} {s : NS} (hG : Goo t0 l) (h1 : lo < hi) (hz : takeL up l t0 lo hi s = turnL 2199023255552 lo hi (fun f => notS f s) [] l) : (takeL up l t0 lo hi s).length ≤ l.length + 2 := by
  rw [hz]
  exact (turn_prf (d := emptyS) (do_ := fun f => notS f s) hG.prf h1).2.2

/-- A job that runs; one that waits; a plan. -/
structure Ru where
  nodes : NS
  end_ : Int
structure Wi where
  id : Int
  n : Int
  long : Int
  of : NS
structure Pl where
  id : Int
  at_ : Int
  nodes : NS
abbrev until_ (now : Int) (r : Ru) : Int := max r.end_ (now + 1)
/-- The profile of what runs. -/
def busyL (now : Int) (up : NS) (rs : List Ru) : List (Sp NS) := rs.foldl (fun l r => takeL up l now now (until_ now r) r.nodes) [⟨now, up⟩]
/-- A wish's plan. -/
noncomputable def planO (up : NS) (l : List (Sp NS)) (now : Int) (w : Wi) : Option Pl := (earlT up l w.n w.long now w.of).map fun t => ⟨w.id, t, firstS (durS up l t (t + w.long) &&& w.of) w.n⟩
/-- A wish that may be. -/
structure WiOk (w : Wi) : Prop where
  id : 1 ≤ w.id
  n0 : 1 ≤ w.n
  n1 : w.n ≤ 256
  l0 : 1 ≤ w.long
  l1 : w.long ≤ 1048576
theorem firstS_mem {s : NS} {k : Int} (h : 0 ≤ k ∧ k ≤ cnt s) : subS (firstS s k) s ∧ ((cnt (firstS s k) : Nat) : Int) = k := by
  unfold firstS
  rw [if_pos h]
  constructor
  · intro b hb h1
    rw [ofL_bit] at h1
    simp only [hb, decide_true, Bool.true_and, decide_eq_true_eq] at h1
    have := mem_lst.1 (List.mem_of_mem_take h1)
    rwa [hasS_nat] at this
  · rw [cnt_ofL_rising ((lst_sorted s).sublist (List.take_sublist _ _)) (fun i hi => lst_range (List.mem_of_mem_take hi)), List.length_take, lst_length]
    omega
/-- What a plan of a wish is. -/
structure PlanOk (t0 : Int) (up : NS) (l : List (Sp NS)) (w : Wi) (x : Pl) : Prop where
  id : x.id = w.id
  ge : t0 ≤ x.at_
  le : x.at_ + w.long ≤ 2199023255552
  cnt : ((Go.Proofs.YtkgphbjneaagoaaDoor.cnt x.nodes : Nat) : Int) = w.n
  of : subS x.nodes w.of
  up_ : subS x.nodes up
  free : ∀ t, x.at_ ≤ t → t < x.at_ + w.long → subS x.nodes (frA emptyS l t)
theorem planO_ok {t0 : Int} {up : NS} {l : List (Sp NS)} {w : Wi} {x : Pl} (hG : Goo t0 l) (hw : WiOk w) (h : planO up l t0 w = some x) : PlanOk t0 up l w x ∧ EarlAt up l w.n w.long t0 w.of x.at_ := by
  unfold planO at h
  obtain ⟨t, ht, rfl⟩ := Option.map_eq_some_iff.1 h
  have hE := of_earlT ht
  have h1 := hE.will.1
  have h2 := hE.will.2
  have hl := hw.l0
  have hn := hw.n0
  have hge := hE.ge
  have hf := firstS_mem (s := durS up l t (t + w.long) &&& w.of) (k := w.n) ⟨by omega, h2⟩
  have hd : ∀ b, b < 256 → (firstS (durS up l t (t + w.long) &&& w.of) w.n).getLsbD b = true → (durS up l t (t + w.long)).getLsbD b = true ∧ w.of.getLsbD b = true := fun b hb h3 => by
    have := hf.1 b hb h3
    rw [BitVec.getLsbD_and, Bool.and_eq_true] at this
    exact this
  refine ⟨⟨rfl, hge, h1, hf.2, fun b hb h3 => (hd b hb h3).2, fun b hb h3 => ((durS_bit hG.prf hge (by omega) hb).1 (hd b hb h3).1).1, fun u h3 h4 b hb h5 => ((durS_bit hG.prf hge (by omega) hb).1 (hd b hb h5).1).2 u h3 h4⟩, hE⟩
theorem PlanOk.take {t0 : Int} {up : NS} {l : List (Sp NS)} {w : Wi} {x : Pl} (h : PlanOk t0 up l w x) (hG : Goo t0 l) (hw : WiOk w) (hl : l.length ≤ 4094) :
    takeE up l t0 x.at_ (x.at_ + w.long) x.nodes = 0 ∧ takeL up l t0 x.at_ (x.at_ + w.long) x.nodes = turnL 2199023255552 x.at_ (x.at_ + w.long) (fun f => notS f x.nodes) [] l :=
  take_ok hG h.ge (by have := hw.l0; omega) h.le h.up_ h.free hl
/-- There is no plan, where there never is enough. -/
theorem planO_none {up : NS} {l : List (Sp NS)} {now : Int} {w : Wi} (h : planO up l now w = none) : earlT up l w.n w.long now w.of = none := by
  unfold planO at h
  exact Option.map_eq_none_iff.1 h
end Go.Proofs.YtkgphbjneaagoaaDoor

set_option linter.unusedVariables false
namespace Go.Proofs.YtkgphbjneaagoaaDoor
open Go.RowKit Go.Sort

theorem snoc_ind {α : Type} {P : List α → Prop} (h0 : P []) (h1 : ∀ l a, P l → P (l ++ [a])) : ∀ l, P l := by
  have key : ∀ n, ∀ l : List α, l.length = n → P l := by
    intro n
    induction n with
    | zero => intro l hl; rw [List.eq_nil_of_length_eq_zero hl]; exact h0
    | succ n ih =>
      intro l hl
      rcases List.eq_nil_or_concat l with rfl | ⟨k, a, rfl⟩
      · simp at hl
      · rw [List.concat_eq_append] at hl ⊢
        exact h1 k a (ih k (by simpa using hl))
  exact fun l => key l.length l rfl
/-- What a pass has under way. -/
structure PS where
  l : List (Sp NS)
  s : List Pl
  p : List Pl
  stop : Bool
/-- A plan is kept. -/
def PS.keep (up : NS) (now : Int) (σ : PS) (w : Wi) (x : Pl) : PS :=
  if x.at_ = now then { σ with l := takeL up σ.l now x.at_ (x.at_ + w.long) x.nodes, s := σ.s ++ [x] } else { σ with l := takeL up σ.l now x.at_ (x.at_ + w.long) x.nodes, p := σ.p ++ [x] }
/-- Does a mode keep a plan that does not begin now? -/
def keeps (mode : Int) (p : List Pl) : Bool := if mode = 1 then p.isEmpty else true
noncomputable def stepP (mode : Int) (up : NS) (now : Int) (σ : PS) (w : Wi) : PS :=
  if σ.stop = true then σ else
  match planO up σ.l now w with
  | some x => if x.at_ = now then σ.keep up now w x else if mode = 0 then { σ with stop := true } else if keeps mode σ.p = true then σ.keep up now w x else σ
  | none => if mode = 0 then { σ with stop := true } else σ
def startP (now : Int) (up : NS) (rs : List Ru) : PS := ⟨busyL now up rs, [], [], false⟩
noncomputable def passP (mode : Int) (up : NS) (now : Int) (rs : List Ru) (ws : List Wi) : PS := ws.foldl (stepP mode up now) (startP now up rs)
theorem stepP_stop {mode : Int} {up : NS} {now : Int} {σ : PS} (w : Wi) (h : σ.stop = true) : stepP mode up now σ w = σ := by unfold stepP; rw [if_pos h]
theorem fold_stop {mode : Int} {up : NS} {now : Int} : ∀ (ws : List Wi) {σ : PS}, σ.stop = true → ws.foldl (stepP mode up now) σ = σ
  | [], _, _ => rfl
  | w :: ws, σ, h => by rw [List.foldl_cons, stepP_stop w h]; exact fold_stop ws h

/-! ### scenes that may be -/
/-- Jobs that run: none of them on another's nodes, all on nodes that are up. -/
structure RunsOk (up : NS) (rs : List Ru) : Prop where
  end_ : ∀ r ∈ rs, 0 ≤ r.end_ ∧ r.end_ ≤ 1099511627776
  up_ : ∀ r ∈ rs, subS r.nodes up
  apart : rs.Pairwise fun a b => ∀ i, i < 256 → a.nodes.getLsbD i = true → b.nodes.getLsbD i = false
structure WishOk (ws : List Wi) : Prop where
  ok : ∀ w ∈ ws, WiOk w
  ids : ws.Pairwise fun a b => a.id ≠ b.id
def occR (now : Int) (rs : List Ru) : List Oc := rs.map fun r => ⟨r.nodes, now, until_ now r⟩
/-- The profile of what runs tells what runs. -/
theorem busy_holds {now : Int} {up : NS} (h0 : 0 ≤ now) (h1 : now ≤ 1099511627776) : ∀ {rs : List Ru}, RunsOk up rs → rs.length ≤ 2000 → Goo now (busyL now up rs) ∧ Holds now up (busyL now up rs) (occR now rs) ∧ (busyL now up rs).length ≤ 1 + 2 * rs.length := by
  intro rs
  refine snoc_ind (P := fun rs => RunsOk up rs → rs.length ≤ 2000 → Goo now (busyL now up rs) ∧ Holds now up (busyL now up rs) (occR now rs) ∧ (busyL now up rs).length ≤ 1 + 2 * rs.length) ?_ ?_ rs
  · exact fun _ _ => ⟨goo_one now up h0 (by omega), holds_one now up, by simp [busyL]⟩
  · intro rs r ih h hl
    have hr : RunsOk up rs := ⟨fun x hx => h.end_ x (List.mem_append_left _ hx), fun x hx => h.up_ x (List.mem_append_left _ hx), (List.pairwise_append.1 h.apart).1⟩
    simp only [List.length_append, List.length_cons, List.length_nil] at hl
    obtain ⟨i1, i2, i3⟩ := ih hr (by omega)
    have he : busyL now up (rs ++ [r]) = takeL up (busyL now up rs) now now (until_ now r) r.nodes := by unfold busyL; rw [List.foldl_append]; rfl
    have hend := h.end_ r (by simp)
    have hlt : now < until_ now r := by unfold until_; omega
    have hle : until_ now r ≤ 2199023255552 := by unfold until_; omega
    obtain ⟨_, hz⟩ := take_ok (up := up) i1 (Int.le_refl _) hlt hle (h.up_ r (by simp)) (fun t h2 h3 b hb h4 => (i2 t h2 (by omega) b hb).2 ⟨h.up_ r (by simp) b hb h4, fun o ho h5 h6 => by
      obtain ⟨x, hx, rfl⟩ := List.mem_map.1 ho
      have h7 := (List.pairwise_append.1 h.apart).2.2 x hx r (by simp) b hb
      cases h8 : x.nodes.getLsbD b
      · rfl
      · rw [h7 h8] at h4; cases h4⟩) (by omega)
    rw [he]
    refine ⟨i1.take, ?_, ?_⟩
    · have := i2.take i1 hlt hz
      unfold occR at this ⊢
      rw [List.map_append]
      exact this
    · have := take_len i1 hlt hz
      simp only [List.length_append, List.length_cons, List.length_nil]
      omega

/-! ### what is kept -/
structure Kp where
  x : Pl
  w : Wi
def occK (ks : List Kp) : List Oc := ks.map fun k => ⟨k.x.nodes, k.x.at_, k.x.at_ + k.w.long⟩
/-- Two that meet in time have no node in common. -/
def Apart (a b : Kp) : Prop := a.x.at_ < b.x.at_ + b.w.long → b.x.at_ < a.x.at_ + a.w.long → ∀ i, i < 256 → a.x.nodes.getLsbD i = true → b.x.nodes.getLsbD i = false
structure KpOk (now : Int) (up : NS) (rs : List Ru) (k : Kp) : Prop where
  id : k.x.id = k.w.id
  ge : now ≤ k.x.at_
  le : k.x.at_ + k.w.long ≤ 2199023255552
  cnt : ((Go.Proofs.YtkgphbjneaagoaaDoor.cnt k.x.nodes : Nat) : Int) = k.w.n
  of : subS k.x.nodes k.w.of
  up_ : subS k.x.nodes up
  runs : ∀ r ∈ rs, k.x.at_ < until_ now r → ∀ i, i < 256 → k.x.nodes.getLsbD i = true → r.nodes.getLsbD i = false
structure PInv (up : NS) (now : Int) (rs : List Ru) (ws : List Wi) (σ : PS) (ks : List Kp) : Prop where
  goo : Goo now σ.l
  len : σ.l.length ≤ 1 + 2 * (rs.length + ks.length)
  holds : Holds now up σ.l (occR now rs ++ occK ks)
  sub : (ks.map Kp.w).Sublist ws
  ok : ∀ k ∈ ks, KpOk now up rs k
  apart : ks.Pairwise Apart
  s : σ.s = (ks.filter fun k => decide (k.x.at_ = now)).map Kp.x
  p : σ.p = (ks.filter fun k => !decide (k.x.at_ = now)).map Kp.x
theorem start_inv {up : NS} {now : Int} {rs : List Ru} (h0 : 0 ≤ now) (h1 : now ≤ 1099511627776) (hr : RunsOk up rs) (hl : rs.length ≤ 2000) : PInv up now rs [] (startP now up rs) [] := by
  obtain ⟨a, b, c⟩ := busy_holds h0 h1 hr hl
  exact ⟨a, (by show (busyL now up rs).length ≤ _; simpa using c), (by show Holds now up (busyL now up rs) _; simpa [occK] using b), List.Sublist.refl _, (fun k hk => by cases hk), List.Pairwise.nil, rfl, rfl⟩
theorem PInv.skip {up : NS} {now : Int} {rs : List Ru} {ws : List Wi} {σ : PS} {ks : List Kp} (h : PInv up now rs ws σ ks) (w : Wi) (b : Bool) : PInv up now rs (ws ++ [w]) { σ with stop := b } ks :=
  ⟨h.goo, h.len, h.holds, h.sub.trans (List.sublist_append_left _ _), h.ok, h.apart, h.s, h.p⟩
/-- What a plan's nodes have in common with what is taken: nothing, where they meet in time. -/
theorem plan_apart {up : NS} {now : Int} {l : List (Sp NS)} {occ : List Oc} {w : Wi} {x : Pl} (hH : Holds now up l occ) (hx : PlanOk now up l w x) (hw : WiOk w) {o : Oc} (ho : o ∈ occ) (h1 : o.lo < x.at_ + w.long) (h2 : x.at_ < o.hi) (h3 : o.lo < o.hi) : ∀ i, i < 256 → x.nodes.getLsbD i = true → o.s.getLsbD i = false := by
  intro i hi h4
  have hge := hx.ge
  have hle := hx.le
  have hl := hw.l0
  have h5 := hx.free (max x.at_ o.lo) (by omega) (by omega) i hi h4
  exact ((hH (max x.at_ o.lo) (by omega) (by omega) i hi).1 h5).2 o ho (by omega) (by omega)
theorem PInv.keep {up : NS} {now : Int} {rs : List Ru} {ws : List Wi} {σ : PS} {ks : List Kp} (h : PInv up now rs ws σ ks) {w : Wi} {x : Pl} (hw : WiOk w) (hx : planO up σ.l now w = some x) (hl : rs.length + ks.length ≤ 2000) (hk : ∀ k ∈ ks, WiOk k.w) :
    PInv up now rs (ws ++ [w]) (σ.keep up now w x) (ks ++ [⟨x, w⟩]) := by
  obtain ⟨hp, _⟩ := planO_ok h.goo hw hx
  have hlen := h.len
  obtain ⟨_, hz⟩ := hp.take h.goo hw (by omega)
  have hl0 := hw.l0
  have e : (σ.keep up now w x).l = takeL up σ.l now x.at_ (x.at_ + w.long) x.nodes := by unfold PS.keep; split <;> rfl
  refine ⟨?_, ?_, ?_, ?_, ?_, ?_, ?_, ?_⟩
  · rw [e]; exact h.goo.take
  · rw [e]
    have := take_len h.goo (by omega) hz
    simp only [List.length_append, List.length_cons, List.length_nil]
    omega
  · rw [e]
    have h2 := h.holds.take h.goo (by omega) hz
    have e2 : occR now rs ++ occK (ks ++ [⟨x, w⟩]) = occR now rs ++ occK ks ++ [⟨x.nodes, x.at_, x.at_ + w.long⟩] := by simp [occK]
    rw [e2]
    exact h2
  · rw [List.map_append]
    exact h.sub.append (List.Sublist.refl _)
  · intro k hk2
    rcases List.mem_append.1 hk2 with h3 | h3
    · exact h.ok k h3
    · simp at h3
      subst h3
      refine ⟨hp.id, hp.ge, hp.le, hp.cnt, hp.of, hp.up_, fun r hr h4 => ?_⟩
      have hge := hp.ge
      exact plan_apart h.holds hp hw (o := ⟨r.nodes, now, until_ now r⟩) (List.mem_append_left _ (List.mem_map.2 ⟨r, hr, rfl⟩)) (by show now < _; omega) h4 (by show now < until_ now r; unfold until_; omega)
  · rw [List.pairwise_append]
    refine ⟨h.apart, List.pairwise_singleton _ _, fun a ha b hb => ?_⟩
    simp at hb
    subst hb
    intro h4 h5 i hi h6
    have ha2 := hk a ha
    have hl2 := ha2.l0
    have h7 := plan_apart h.holds hp hw (o := ⟨a.x.nodes, a.x.at_, a.x.at_ + a.w.long⟩) (List.mem_append_right _ (List.mem_map.2 ⟨a, ha, rfl⟩)) h4 h5 (by show a.x.at_ < a.x.at_ + a.w.long; omega) i hi
    cases h8 : x.nodes.getLsbD i
    · rfl
    · have := h7 h8
      simp only at this
      rw [this] at h6; cases h6
  · unfold PS.keep
    by_cases h4 : x.at_ = now
    · rw [if_pos h4, List.filter_append, List.map_append]
      simp [h4, h.s]
    · rw [if_neg h4, List.filter_append, List.map_append]
      simp [h4, h.s]
  · unfold PS.keep
    by_cases h4 : x.at_ = now
    · rw [if_pos h4, List.filter_append, List.map_append]
      simp [h4, h.p]
    · rw [if_neg h4, List.filter_append, List.map_append]
      simp [h4, h.p]
theorem step_inv {mode : Int} {up : NS} {now : Int} {rs : List Ru} {ws : List Wi} {σ : PS} {ks : List Kp} (h : PInv up now rs ws σ ks) {w : Wi} (hw : WiOk w) (hl : rs.length + ks.length ≤ 2000) (hk : ∀ k ∈ ks, WiOk k.w) :
    PInv up now rs (ws ++ [w]) (stepP mode up now σ w) ks ∨ ∃ x, PInv up now rs (ws ++ [w]) (stepP mode up now σ w) (ks ++ [⟨x, w⟩]) := by
  have hs : PInv up now rs (ws ++ [w]) σ ks := h.skip w σ.stop
  unfold stepP
  split
  · exact .inl hs
  · split
    · rename_i x hx
      split
      · exact .inr ⟨x, h.keep hw hx hl hk⟩
      · split
        · exact .inl (h.skip w true)
        · split
          · exact .inr ⟨x, h.keep hw hx hl hk⟩
          · exact .inl hs
    · split
      · exact .inl (h.skip w true)
      · exact .inl hs
theorem pass_inv {mode : Int} {up : NS} {now : Int} {rs : List Ru} (h0 : 0 ≤ now) (h1 : now ≤ 1099511627776) (hr : RunsOk up rs) : ∀ {ws : List Wi}, WishOk ws → rs.length + ws.length ≤ 2000 → ∃ ks, PInv up now rs ws (passP mode up now rs ws) ks := by
  intro ws
  refine snoc_ind (P := fun ws => WishOk ws → rs.length + ws.length ≤ 2000 → ∃ ks, PInv up now rs ws (passP mode up now rs ws) ks) ?_ ?_ ws
  · exact fun hw hl => ⟨[], start_inv h0 h1 hr (by simpa using hl)⟩
  · intro ws w ih hw hl
    simp only [List.length_append, List.length_cons, List.length_nil] at hl
    obtain ⟨ks, hi⟩ := ih ⟨fun x hx => hw.ok x (List.mem_append_left _ hx), (List.pairwise_append.1 hw.ids).1⟩ (by omega)
    have hks : ks.length ≤ ws.length := by simpa using hi.sub.length_le
    have hkw : ∀ k ∈ ks, WiOk k.w := fun k hk => hw.ok k.w (List.mem_append_left _ (hi.sub.subset (List.mem_map.2 ⟨k, hk, rfl⟩)))
    have he : passP mode up now rs (ws ++ [w]) = stepP mode up now (passP mode up now rs ws) w := by unfold passP; rw [List.foldl_append]; rfl
    rw [he]
    rcases step_inv (mode := mode) hi (hw.ok w (by simp)) (by omega) hkw with h2 | ⟨x, h2⟩
    · exact ⟨ks, h2⟩
    · exact ⟨_, h2⟩
end Go.Proofs.YtkgphbjneaagoaaDoor

set_option linter.unusedVariables false
namespace Go.Proofs.YtkgphbjneaagoaaDoor
open Go.RowKit Go.Sort

theorem step_grows (mode : Int) (up : NS) (now : Int) (σ : PS) (w : Wi) : ∃ a b, (stepP mode up now σ w).s = σ.s ++ a ∧ (stepP mode up now σ w).p = σ.p ++ b := by
  have hk : ∀ x, ∃ a b, (σ.keep up now w x).s = σ.s ++ a ∧ (σ.keep up now w x).p = σ.p ++ b := fun x => by
    unfold PS.keep
    split
    · exact ⟨[x], [], rfl, by simp⟩
    · exact ⟨[], [x], by simp, rfl⟩
  unfold stepP
  split
  · exact ⟨[], [], by simp, by simp⟩
  · split
    · split
      · exact hk _
      · split
        · exact ⟨[], [], by simp, by simp⟩
        · split
          · exact hk _
          · exact ⟨[], [], by simp, by simp⟩
    · split
      · exact ⟨[], [], by simp, by simp⟩
      · exact ⟨[], [], by simp, by simp⟩
theorem fold_grows (mode : Int) (up : NS) (now : Int) : ∀ (ws : List Wi) (σ : PS), ∃ a b, (ws.foldl (stepP mode up now) σ).s = σ.s ++ a ∧ (ws.foldl (stepP mode up now) σ).p = σ.p ++ b
  | [], σ => ⟨[], [], by simp, by simp⟩
  | w :: ws, σ => by
    obtain ⟨a, b, h1, h2⟩ := step_grows mode up now σ w
    obtain ⟨c, d, h3, h4⟩ := fold_grows mode up now ws (stepP mode up now σ w)
    exact ⟨a ++ c, b ++ d, by rw [List.foldl_cons, h3, h1, List.append_assoc], by rw [List.foldl_cons, h4, h2, List.append_assoc]⟩
/-- What is behind a job does not turn what is planned for it. -/
theorem pass_take (mode : Int) (up : NS) (now : Int) (rs : List Ru) (ws : List Wi) (k : Nat) :
    (passP mode up now rs (ws.take k)).s = (passP mode up now rs ws).s.take (passP mode up now rs (ws.take k)).s.length ∧ (passP mode up now rs (ws.take k)).s.length ≤ (passP mode up now rs ws).s.length ∧
    (passP mode up now rs (ws.take k)).p = (passP mode up now rs ws).p.take (passP mode up now rs (ws.take k)).p.length ∧ (passP mode up now rs (ws.take k)).p.length ≤ (passP mode up now rs ws).p.length := by
  have e : passP mode up now rs ws = (ws.drop k).foldl (stepP mode up now) (passP mode up now rs (ws.take k)) := by
    unfold passP
    rw [← List.foldl_append, List.take_append_drop]
  obtain ⟨a, b, h1, h2⟩ := fold_grows mode up now (ws.drop k) (passP mode up now rs (ws.take k))
  rw [← e] at h1 h2
  rw [h1, h2]
  simp
/-- With None nothing is planned for later. -/
theorem none_p (up : NS) (now : Int) : ∀ (ws : List Wi) (σ : PS), σ.p = [] → (ws.foldl (stepP 0 up now) σ).p = []
  | [], σ, h => h
  | w :: ws, σ, h => by
    rw [List.foldl_cons]
    refine none_p up now ws _ ?_
    unfold stepP
    split
    · exact h
    · split
      · split
        · rename_i x hx hat
          unfold PS.keep; rw [if_pos hat]; exact h
        · rw [if_pos rfl]; exact h
      · rw [if_pos rfl]; exact h
/-- With Easy one is, at most. -/
theorem easy_p (up : NS) (now : Int) : ∀ (ws : List Wi) (σ : PS), σ.p.length ≤ 1 → (ws.foldl (stepP 1 up now) σ).p.length ≤ 1
  | [], σ, h => h
  | w :: ws, σ, h => by
    rw [List.foldl_cons]
    refine easy_p up now ws _ ?_
    unfold stepP
    split
    · exact h
    · split
      · split
        · rename_i x hx hat
          unfold PS.keep; rw [if_pos hat]; exact h
        · rw [if_neg (by decide)]
          split
          · rename_i hk
            unfold keeps at hk
            rw [if_pos rfl] at hk
            have : σ.p = [] := by simpa using hk
            unfold PS.keep
            split
            · simp [this]
            · simp [this]
          · exact h
      · rw [if_neg (by decide)]; exact h
/-- Easy and Full start what None does. -/
theorem all_fold (mode : Int) (hm : mode = 1 ∨ mode = 2) (up : NS) (now : Int) : ∀ (ws : List Wi) (σ τ : PS), (σ = τ ∧ σ.stop = false) ∨ (σ.stop = true ∧ ∃ a, τ.s = σ.s ++ a) →
    ∃ a, (ws.foldl (stepP mode up now) τ).s = (ws.foldl (stepP 0 up now) σ).s ++ a
  | [], σ, τ, h => by
    rcases h with ⟨rfl, _⟩ | ⟨_, a, h⟩
    · exact ⟨[], by simp⟩
    · exact ⟨a, h⟩
  | w :: ws, σ, τ, h => by
    rw [List.foldl_cons, List.foldl_cons]
    refine all_fold mode hm up now ws _ _ ?_
    rcases h with ⟨rfl, hs⟩ | ⟨hs, a, h⟩
    · have hns : ¬ σ.stop = true := by rw [hs]; decide
      have hm0 : ¬ mode = 0 := by omega
      unfold stepP
      rw [if_neg hns, if_neg hns]
      cases hp : planO up σ.l now w with
      | none => exact .inr ⟨rfl, [], by simp [hm0]⟩
      | some x =>
        simp only
        by_cases hat : x.at_ = now
        · rw [if_pos hat, if_pos hat]
          refine .inl ⟨rfl, ?_⟩
          unfold PS.keep; rw [if_pos hat]; exact hs
        · rw [if_neg hat, if_neg hat, if_pos trivial, if_neg hm0]
          refine .inr ⟨rfl, ?_⟩
          split
          · exact ⟨[], by unfold PS.keep; rw [if_neg hat]; simp⟩
          · exact ⟨[], by simp⟩
    · refine .inr ⟨by rw [stepP_stop w hs]; exact hs, ?_⟩
      rw [stepP_stop w hs]
      obtain ⟨b, c, h1, _⟩ := step_grows mode up now τ w
      exact ⟨a ++ b, by rw [h1, h, List.append_assoc]⟩
theorem pass_all (mode : Int) (hm : mode = 1 ∨ mode = 2) (up : NS) (now : Int) (rs : List Ru) (ws : List Wi) :
    (passP 0 up now rs ws).s = (passP mode up now rs ws).s.take (passP 0 up now rs ws).s.length ∧ (passP 0 up now rs ws).s.length ≤ (passP mode up now rs ws).s.length := by
  obtain ⟨a, h⟩ := all_fold mode hm up now ws (startP now up rs) (startP now up rs) (.inl ⟨rfl, rfl⟩)
  have h' : (passP mode up now rs ws).s = (passP 0 up now rs ws).s ++ a := h
  rw [h']
  simp

/-! ### by itself, over what runs then -/
/-- What was started runs. -/
def ranP (now : Int) (ks : List Kp) : List Ru := (ks.filter fun k => decide (k.x.at_ = now)).map fun k => ⟨k.x.nodes, now + k.w.long⟩
theorem Apart.symm {a b : Kp} (h : Apart a b) : Apart b a := fun h1 h2 i hi h3 => by
  have := h h2 h1 i hi
  cases h4 : a.x.nodes.getLsbD i
  · rfl
  · rw [this h4] at h3; cases h3
theorem pairwise_mem {α : Type} {R : α → α → Prop} (hs : ∀ a b, R a b → R b a) : ∀ {l : List α}, l.Pairwise R → ∀ (i j : Nat) (a b : α), l[i]? = some a → l[j]? = some b → i ≠ j → R a b := by
  intro l h i j a b hi hj hij
  obtain ⟨hi1, hi2⟩ := List.getElem?_eq_some_iff.1 hi
  obtain ⟨hj1, hj2⟩ := List.getElem?_eq_some_iff.1 hj
  rcases Nat.lt_or_gt_of_ne hij with h1 | h1
  · have := List.pairwise_iff_getElem.1 h i j hi1 hj1 h1
    rwa [hi2, hj2] at this
  · have := List.pairwise_iff_getElem.1 h j i hj1 hi1 h1
    rw [hi2, hj2] at this
    exact hs _ _ this
theorem filter_pair {α : Type} {R : α → α → Prop} (hs : ∀ a b, R a b → R b a) {l : List α} (h : l.Pairwise R) (p : α → Bool) : ∀ a ∈ l.filter p, ∀ b ∈ l.filter (fun k => !p k), R a b := by
  intro a ha b hb
  obtain ⟨ha1, ha2⟩ := List.mem_filter.1 ha
  obtain ⟨hb1, hb2⟩ := List.mem_filter.1 hb
  obtain ⟨i, hi, ei⟩ := List.getElem_of_mem ha1
  obtain ⟨j, hj, ej⟩ := List.getElem_of_mem hb1
  refine pairwise_mem hs h i j a b (by rw [List.getElem?_eq_getElem hi, ei]) (by rw [List.getElem?_eq_getElem hj, ej]) ?_
  rintro rfl
  rw [ei] at ej
  rw [ej] at ha2
  simp [ha2] at hb2
/-- What runs and what was started may run together. -/
theorem ran_ok {up : NS} {now : Int} {rs : List Ru} {ws : List Wi} {σ : PS} {ks : List Kp} (h : PInv up now rs ws σ ks) (hr : RunsOk up rs) (hk : ∀ k ∈ ks, WiOk k.w) (h0 : 0 ≤ now) (h1 : now ≤ 1099511627776 - 1048576) : RunsOk up (rs ++ ranP now ks) := by
  have hmem : ∀ r ∈ ranP now ks, ∃ k ∈ ks, k.x.at_ = now ∧ r = ⟨k.x.nodes, now + k.w.long⟩ := fun r hr => by
    obtain ⟨k, hk1, rfl⟩ := List.mem_map.1 hr
    obtain ⟨hk2, hk3⟩ := List.mem_filter.1 hk1
    exact ⟨k, hk2, by simpa using hk3, rfl⟩
  refine ⟨fun r hr2 => ?_, fun r hr2 => ?_, ?_⟩
  · rcases List.mem_append.1 hr2 with h2 | h2
    · exact hr.end_ r h2
    · obtain ⟨k, hk1, _, rfl⟩ := hmem r h2
      have := hk k hk1
      have := this.l0; have := (hk k hk1).l1
      show 0 ≤ now + k.w.long ∧ now + k.w.long ≤ _
      omega
  · rcases List.mem_append.1 hr2 with h2 | h2
    · exact hr.up_ r h2
    · obtain ⟨k, hk1, _, rfl⟩ := hmem r h2
      exact (h.ok k hk1).up_
  · rw [List.pairwise_append]
    refine ⟨hr.apart, ?_, fun a ha b hb i hi h2 => ?_⟩
    · unfold ranP
      rw [List.pairwise_map]
      have hq := h.apart.filter (fun k => decide (k.x.at_ = now))
      refine hq.imp_of_mem fun {a b} ha hb hab i hi h2 => ?_
      obtain ⟨ha1, ha2⟩ := List.mem_filter.1 ha
      obtain ⟨hb1, hb2⟩ := List.mem_filter.1 hb
      simp only [decide_eq_true_eq] at ha2 hb2
      have := (hk a ha1).l0; have := (hk b hb1).l0
      exact hab (by omega) (by omega) i hi h2
    · obtain ⟨k, hk1, hk2, rfl⟩ := hmem b hb
      have h3 := (h.ok k hk1).runs a ha (by rw [hk2]; unfold until_; omega) i hi
      cases h4 : k.x.nodes.getLsbD i
      · rfl
      · rw [h3 h4] at h2; cases h2
/-- What was planned is there by itself, no later. -/
theorem holds_plan {up : NS} {now : Int} {rs : List Ru} {ws : List Wi} {σ : PS} {ks : List Kp} (h : PInv up now rs ws σ ks) (hr : RunsOk up rs) (hk : ∀ k ∈ ks, WiOk k.w) (h0 : 0 ≤ now) (h1 : now ≤ 1099511627776 - 1048576) (hl : rs.length + ks.length ≤ 2000)
    {k : Kp} (hk1 : k ∈ ks) (hk2 : ¬ k.x.at_ = now) : ∃ x, planO up (busyL now up (rs ++ ranP now ks)) now k.w = some x ∧ x.id = k.x.id ∧ x.at_ ≤ k.x.at_ := by
  have hro := ran_ok h hr hk h0 h1
  have hlen : (ranP now ks).length ≤ ks.length := by unfold ranP; rw [List.length_map]; exact List.length_filter_le _ _
  obtain ⟨b1, b2, _⟩ := busy_holds h0 (by omega) hro (by rw [List.length_append]; omega)
  have hw := hk k hk1
  have ho := h.ok k hk1
  have hl0 := hw.l0; have hge := ho.ge; have hle := ho.le
  have hwill : Will up (busyL now up (rs ++ ranP now ks)) 2199023255552 k.w.n k.w.long k.w.of k.x.at_ := by
    refine ⟨hle, ?_⟩
    rw [← ho.cnt]
    have hs : subS k.x.nodes (durS up (busyL now up (rs ++ ranP now ks)) k.x.at_ (k.x.at_ + k.w.long) &&& k.w.of) := by
      intro i hi h2
      rw [BitVec.getLsbD_and, Bool.and_eq_true]
      refine ⟨(durS_bit b1.prf hge (by omega) hi).2 ⟨ho.up_ i hi h2, fun t h3 h4 => (b2 t (by omega) (by omega) i hi).2 ⟨ho.up_ i hi h2, fun o ho2 h5 h6 => ?_⟩⟩, ho.of i hi h2⟩
      obtain ⟨r, hr2, rfl⟩ := List.mem_map.1 ho2
      rcases List.mem_append.1 hr2 with h7 | h7
      · exact ho.runs r h7 (by show k.x.at_ < until_ now r; have : t < until_ now r := h6; omega) i hi h2
      · obtain ⟨a, ha, rfl⟩ := List.mem_map.1 h7
        have hab := filter_pair (R := Apart) (fun _ _ h => h.symm) h.apart (fun k => decide (k.x.at_ = now)) a ha k (List.mem_filter.2 ⟨hk1, by simp [hk2]⟩)
        obtain ⟨ha1, ha2⟩ := List.mem_filter.1 ha
        simp only [decide_eq_true_eq] at ha2
        have hal := (hk a ha1).l0
        have h8 : t < max (now + a.w.long) (now + 1) := h6
        have h9 := hab (by omega) (by omega) i hi
        cases h10 : a.x.nodes.getLsbD i
        · rfl
        · rw [h9 h10] at h2; cases h2
    have := hs.cnt
    omega
  have hex : ∃ t, EarlAt up (busyL now up (rs ++ ranP now ks)) k.w.n k.w.long now k.w.of t ∧ t ≤ k.x.at_ := by
    have key : ∀ n : Nat, ∀ u, now ≤ u → u ≤ k.x.at_ → (u - now).toNat = n → Will up (busyL now up (rs ++ ranP now ks)) 2199023255552 k.w.n k.w.long k.w.of u → ∃ t, EarlAt up (busyL now up (rs ++ ranP now ks)) k.w.n k.w.long now k.w.of t ∧ t ≤ k.x.at_ := by
      intro n
      induction n using Nat.strongRecOn with
      | _ n ih =>
        intro u hu1 hu2 hu3 hu4
        by_cases hx : ∃ v, now ≤ v ∧ v < u ∧ Will up (busyL now up (rs ++ ranP now ks)) 2199023255552 k.w.n k.w.long k.w.of v
        · obtain ⟨v, hv1, hv2, hv3⟩ := hx
          exact ih (v - now).toNat (by omega) v hv1 (by omega) rfl hv3
        · exact ⟨u, ⟨hu1, hu4, fun v h2 h3 h4 => hx ⟨v, h2, h3, h4⟩⟩, hu2⟩
    exact key _ k.x.at_ hge (Int.le_refl _) rfl hwill
  obtain ⟨t, ht, htl⟩ := hex
  refine ⟨_, by unfold planO; rw [earlT_some ht]; rfl, ho.id.symm, htl⟩
end Go.Proofs.YtkgphbjneaagoaaDoor
