/- Profiles as lists of steps: plain facts, no program in sight. -/
set_option linter.unusedVariables false
set_option linter.unusedSectionVars false
set_option linter.unusedSimpArgs false
namespace Go.Proofs.YtkgphbjneaagoaaDoor

section
variable {α : Type} [DecidableEq α]
/-- A time, and what holds from it on. -/
structure Sp (α : Type) where
  at_ : Int
  free : α
/-- What holds at a time. -/
def frA (d : α) : List (Sp α) → Int → α
  | [], _ => d
  | [x], _ => x.free
  | x :: y :: r, t => if t < y.at_ then x.free else frA d (y :: r) t
/-- The steps rise, and no two that follow hold the same. -/
def Can : List (Sp α) → Prop
  | [] => True
  | [_] => True
  | x :: y :: r => x.at_ < y.at_ ∧ x.free ≠ y.free ∧ Can (y :: r)
theorem Can.tail {x : Sp α} {r : List (Sp α)} (h : Can (x :: r)) : Can r := by
  cases r with
  | nil => trivial
  | cons y r => exact h.2.2
theorem Can.head_lt {x : Sp α} : ∀ {r : List (Sp α)}, Can (x :: r) → ∀ y ∈ r, x.at_ < y.at_
  | [], _, y, hy => by cases hy
  | z :: r, h, y, hy => by
    rcases List.mem_cons.1 hy with rfl | hy
    · exact h.1
    · have := Can.head_lt (x := z) h.2.2 y hy
      have := h.1
      omega
/-- Put a step behind: none if it holds what held. -/
def putP (out : List (Sp α)) (a : Int) (f : α) : List (Sp α) :=
  match out.getLast? with
  | none => [⟨a, f⟩]
  | some x => if x.free ≠ f then out ++ [⟨a, f⟩] else out
theorem frA_one (d : α) (x : Sp α) (t : Int) : frA d [x] t = x.free := rfl
theorem can_snoc : ∀ {l : List (Sp α)} {x : Sp α} {a : Int} {f : α}, Can (l ++ [x]) → x.at_ < a → x.free ≠ f → Can (l ++ [x] ++ [⟨a, f⟩])
  | [], x, a, f, _, h1, h2 => ⟨h1, h2, trivial⟩
  | [y], x, a, f, h, h1, h2 => ⟨h.1, h.2.1, h1, h2, trivial⟩
  | y :: z :: r, x, a, f, h, h1, h2 => ⟨h.1, h.2.1, can_snoc (l := z :: r) h.2.2 h1 h2⟩
theorem frA_snoc (d : α) : ∀ {l : List (Sp α)} {x : Sp α} {a : Int} {f : α} {t : Int}, Can (l ++ [x]) → x.at_ < a → frA d (l ++ [x] ++ [⟨a, f⟩]) t = if t < a then frA d (l ++ [x]) t else f
  | [], x, a, f, t, _, h1 => by simp [frA]
  | [y], x, a, f, t, h, h1 => by
    simp only [List.singleton_append, List.cons_append, List.nil_append, frA]
    by_cases h2 : t < x.at_
    · have h3 : t < a := by omega
      simp [h2, h3]
    · simp [h2]
  | y :: z :: r, x, a, f, t, h, h1 => by
    have ih := frA_snoc d (l := z :: r) (x := x) (a := a) (f := f) (t := t) h.2.2 h1
    simp only [List.cons_append, frA] at ih ⊢
    rw [ih]
    by_cases h2 : t < z.at_
    · have h4 : z.at_ < x.at_ ∨ z.at_ < a := .inl (Can.head_lt (x := z) (r := r ++ [x]) h.2.2 x (by simp))
      have h5 : z.at_ < x.at_ := Can.head_lt (x := z) (r := r ++ [x]) h.2.2 x (by simp)
      have h3 : t < a := by omega
      simp [h2, h3]
    · simp [h2]
/-- The last one holds from its time on. -/
theorem frA_last (d : α) : ∀ {l : List (Sp α)} {x : Sp α} {t : Int}, Can (l ++ [x]) → x.at_ ≤ t → frA d (l ++ [x]) t = x.free
  | [], x, t, _, _ => rfl
  | [y], x, t, h, h1 => by
    have h2 : ¬ t < x.at_ := by omega
    simp [frA, h2]
  | y :: z :: r, x, t, h, h1 => by
    have h5 : z.at_ < x.at_ := Can.head_lt (x := z) (r := r ++ [x]) h.2.2 x (by simp)
    have h2 : ¬ t < z.at_ := by omega
    have ih := frA_last d (l := z :: r) (x := x) (t := t) h.2.2 h1
    simp only [List.cons_append, frA] at ih ⊢
    simp only [h2, if_false]
    exact ih

/-- 'out' tells g from t0 up to b. -/
structure Tells (d : α) (g : Int → α) (t0 b : Int) (out : List (Sp α)) : Prop where
  can : Can out
  none : out = [] → b = t0
  lt : ∀ s ∈ out, s.at_ < b
  first : ∀ x r, out = x :: r → x.at_ = t0
  is : ∀ t, t0 ≤ t → t < b → frA d out t = g t
theorem Tells.put {d : α} {g : Int → α} {t0 a b : Int} {out : List (Sp α)} {f : α} (h : Tells d g t0 a out) (ha : t0 ≤ a) (hab : a < b) (hf : ∀ t, a ≤ t → t < b → g t = f) :
    Tells d g t0 b (putP out a f) ∧ (putP out a f).length ≤ out.length + 1 ∧ putP out a f ≠ [] := by
  rcases List.eq_nil_or_concat out with rfl | ⟨l, x, rfl⟩
  · have e : a = t0 := h.none rfl
    subst e
    refine ⟨⟨trivial, (fun h => by cases h), (fun s hs => by simp [putP] at hs; subst hs; exact hab), (fun x r hx => by simp [putP] at hx; rw [← hx.1]), fun t h1 h2 => ?_⟩, by simp [putP], by simp [putP]⟩
    exact (hf t h1 h2).symm
  · rw [List.concat_eq_append] at h ⊢
    have hx : x.at_ < a := h.lt x (by simp)
    have hg : (l ++ [x]).getLast? = some x := by simp
    have hpos : l ++ [x] ≠ [] := by simp
    by_cases hne : x.free ≠ f
    · have e : putP (l ++ [x]) a f = l ++ [x] ++ [⟨a, f⟩] := by unfold putP; rw [hg]; simp [hne]
      rw [e]
      refine ⟨⟨can_snoc h.can hx hne, (fun h => by simp at h), fun s hs => ?_, fun y r hy => ?_, fun t h1 h2 => ?_⟩, by simp, by simp⟩
      · rcases List.mem_append.1 hs with hs | hs
        · have := h.lt s hs; omega
        · simp at hs; subst hs; exact hab
      · cases l with
        | nil => simp at hy; exact h.first x [] rfl ▸ by rw [← hy.1]
        | cons z l => simp at hy; exact h.first y (l ++ [x]) (by rw [← hy.1]; rfl)
      · rw [frA_snoc d h.can hx]
        by_cases h3 : t < a
        · rw [if_pos h3]; exact h.is t h1 h3
        · rw [if_neg h3]; exact (hf t (by omega) h2).symm
    · have hfe : x.free = f := by by_cases h9 : x.free = f; exact h9; exact absurd h9 hne
      have e : putP (l ++ [x]) a f = l ++ [x] := by unfold putP; rw [hg]; simp [hfe]
      rw [e]
      refine ⟨⟨h.can, (fun h => absurd h hpos), (fun s hs => by have := h.lt s hs; omega), h.first, fun t h1 h2 => ?_⟩, by omega, hpos⟩
      by_cases h3 : t < a
      · exact h.is t h1 h3
      · rw [frA_last d h.can (by omega), hfe]
        exact (hf t (by omega) h2).symm
/-- Two that tell the same are the same. -/
theorem can_unique (d : α) (E : Int) : ∀ {l r : List (Sp α)}, Can l → Can r → (∀ s ∈ l, s.at_ < E) → (∀ s ∈ r, s.at_ < E) → ∀ {x y : Sp α} {l' r'}, l = x :: l' → r = y :: r' → x.at_ = y.at_ → (∀ t, x.at_ ≤ t → t < E → frA d l t = frA d r t) → l = r
  | [x], [y], _, _, hl, hr, _, _, _, _, rfl, rfl, hxy, h => by
    have hx := hl x (by simp)
    have h1 := h x.at_ (Int.le_refl _) hx
    simp [frA] at h1
    cases x; cases y; simp_all
  | [x], y :: z :: r, _, hr, hl, hrE, _, _, _, _, rfl, rfl, hxy, h => by
    exfalso
    have hz := hrE z (by simp)
    have h1 := h x.at_ (Int.le_refl _) (hl x (by simp))
    have h2 := h z.at_ (by rw [hxy]; exact Int.le_of_lt hr.1) hz
    have h3 : x.at_ < z.at_ := by rw [hxy]; exact hr.1
    have h4 : frA d (z :: r) z.at_ = z.free := by
      cases r with
      | nil => rfl
      | cons a r => have := hr.2.2.1; simp [frA, this]
    simp [frA, h3] at h1
    simp [frA, h4] at h2
    exact hr.2.1 (h1.symm.trans h2)
  | x :: z :: l, [y], hl, _, hlE, hr, _, _, _, _, rfl, rfl, hxy, h => by
    exfalso
    have hz := hlE z (by simp)
    have h1 := h x.at_ (Int.le_refl _) (hlE x (by simp))
    have h2 := h z.at_ (Int.le_of_lt hl.1) hz
    have h3 : x.at_ < z.at_ := hl.1
    have h4 : frA d (z :: l) z.at_ = z.free := by
      cases l with
      | nil => rfl
      | cons a l => have := hl.2.2.1; simp [frA, this]
    simp [frA, h3] at h1
    simp [frA, h4] at h2
    exact hl.2.1 (h1.trans h2.symm)
  | x :: z :: l, y :: u :: r, hl, hr, hlE, hrE, _, _, _, _, rfl, rfl, hxy, h => by
    have hz := hlE z (by simp)
    have hu := hrE u (by simp)
    have fz : ∀ t, z.at_ ≤ t → frA d (x :: z :: l) t = frA d (z :: l) t := fun t ht => by
      have h9 : ¬ t < z.at_ := by omega
      simp [frA, h9]
    have fu : ∀ t, u.at_ ≤ t → frA d (y :: u :: r) t = frA d (u :: r) t := fun t ht => by
      have h9 : ¬ t < u.at_ := by omega
      simp [frA, h9]
    have hd : ∀ (a : Sp α) (s : List (Sp α)), Can (a :: s) → frA d (a :: s) a.at_ = a.free := fun a s hs => by
      cases s with
      | nil => rfl
      | cons b s => have := hs.1; simp [frA, this]
    have h1 := h x.at_ (Int.le_refl _) (hlE x (by simp))
    have hx1 : x.at_ < z.at_ := hl.1
    have hy1 : x.at_ < u.at_ := by rw [hxy]; exact hr.1
    have hfree : x.free = y.free := by simpa [frA, hx1, hy1] using h1
    have hat : z.at_ = u.at_ := by
      rcases Int.lt_trichotomy z.at_ u.at_ with h5 | h5 | h5
      · exfalso
        have h2 := h z.at_ (Int.le_of_lt hx1) hz
        rw [fz _ (Int.le_refl _), hd z l hl.2.2] at h2
        simp [frA, h5] at h2
        exact hl.2.1 (hfree.trans h2.symm)
      · exact h5
      · exfalso
        have h2 := h u.at_ (Int.le_of_lt hy1) hu
        rw [fu _ (Int.le_refl _), hd u r hr.2.2] at h2
        simp [frA, h5] at h2
        exact hr.2.1 (hfree.symm.trans h2)
    have ih := can_unique d E hl.2.2 hr.2.2 (fun s hs => hlE s (List.mem_cons_of_mem _ hs)) (fun s hs => hrE s (List.mem_cons_of_mem _ hs)) rfl rfl hat (fun t ht1 ht2 => by
      have h2 := h t (by omega) ht2
      rw [fz t ht1, fu t (by omega)] at h2
      exact h2)
    cases x; cases y
    simp only at hxy hfree
    subst hxy hfree
    rw [ih]

/-- Where the next step is. -/
def nextAt (E : Int) : List (Sp α) → Int
  | [] => E
  | y :: _ => y.at_
/-- One step's part of the turned steps: ahead of the span, in it, behind it. -/
def turn1 (out : List (Sp α)) (at_ next lo hi : Int) (free : α) (do_ : α → α) : List (Sp α) :=
  let o1 := if at_ < lo then putP out at_ free else out
  let o2 := if max at_ lo < min next hi then putP o1 (max at_ lo) (do_ free) else o1
  if max at_ hi < next then putP o2 (max at_ hi) free else o2
/-- The steps, in which a span holds others. -/
def turnL (E lo hi : Int) (do_ : α → α) : List (Sp α) → List (Sp α) → List (Sp α)
  | out, [] => out
  | out, x :: r => turnL E lo hi do_ (turn1 out x.at_ (nextAt E r) lo hi x.free do_) r
/-- What a turned profile holds. -/
def turnF (lo hi : Int) (do_ : α → α) (f : Int → α) (t : Int) : α := if lo ≤ t ∧ t < hi then do_ (f t) else f t
theorem turn1_tells {d : α} {g : Int → α} {t0 b next lo hi : Int} {out : List (Sp α)} {f : α} {do_ : α → α} (h : Tells d g t0 b out) (h0 : t0 ≤ b) (hb : b < next) (hlh : lo < hi)
    (hg : ∀ t, b ≤ t → t < next → g t = if lo ≤ t ∧ t < hi then do_ f else f) :
    Tells d g t0 next (turn1 out b next lo hi f do_) ∧ (turn1 out b next lo hi f do_).length ≤ out.length + 1 + (if b ≤ lo ∧ lo < next then 1 else 0) + (if b ≤ hi ∧ hi < next then 1 else 0) := by
  have key : ∀ (o : List (Sp α)) (m a c : Int) (v : α) (k : Nat), Tells d g t0 m o ∧ o.length ≤ out.length + k → t0 ≤ m → (a < c → m = a) → (¬ a < c → m = c) → (∀ t, a ≤ t → t < c → g t = v) → ∀ P : List (Sp α), P = (if a < c then putP o a v else o) → Tells d g t0 c P ∧ P.length ≤ out.length + k + (if a < c then 1 else 0) := by
    intro o m a c v k ⟨ho, hl⟩ hm h1 h2 hv P hP
    subst hP
    by_cases hac : a < c
    · have e := h1 hac
      subst e
      obtain ⟨q1, q2, _⟩ := ho.put hm hac hv
      simp only [hac, if_true]
      exact ⟨q1, by omega⟩
    · have e := h2 hac
      subst e
      simp only [hac, if_false]
      exact ⟨ho, by omega⟩
  unfold turn1
  simp only
  by_cases hA : b < lo
  · by_cases hB : lo < next
    · -- a part ahead
      obtain ⟨q1, q2, _⟩ := h.put (b := lo) (f := f) h0 hA (fun t h1 h2 => by rw [hg t h1 (by omega), if_neg (by omega)])
      rw [if_pos hA]
      have e1 : max b lo = lo := by omega
      rw [e1]
      have h2 := key (putP out b f) lo lo (min next hi) (do_ f) 1 ⟨q1, q2⟩ (by omega) (fun _ => rfl) (fun h9 => by omega) (fun t h1 h2 => by rw [hg t (by omega) (by omega), if_pos (by omega)]) _ rfl
      by_cases hC : hi < next
      · have e2 : min next hi = hi := by omega
        have e3 : max b hi = hi := by omega
        rw [e2] at h2 ⊢
        rw [e3]
        have h3 := key _ hi hi next f (1 + if lo < hi then 1 else 0) ⟨h2.1, by rw [← Nat.add_assoc]; exact h2.2⟩ (by omega) (fun _ => rfl) (fun h9 => by omega) (fun t h1 h2 => by rw [hg t (by omega) (by omega), if_neg (by omega)]) _ rfl
        refine ⟨h3.1, Nat.le_trans h3.2 ?_⟩
        rw [if_pos hlh, if_pos hC, if_pos (show b ≤ lo ∧ lo < next by omega), if_pos (show b ≤ hi ∧ hi < next by omega)]
        omega
      · have e2 : min next hi = next := by omega
        rw [e2] at h2 ⊢
        rw [if_neg (show ¬ max b hi < next by omega)]
        refine ⟨h2.1, Nat.le_trans h2.2 ?_⟩
        rw [if_pos hB, if_pos (show b ≤ lo ∧ lo < next by omega)]
        omega
    · -- all ahead
      obtain ⟨q1, q2, _⟩ := h.put (b := next) (f := f) h0 hb (fun t h1 h2 => by rw [hg t h1 h2, if_neg (by omega)])
      rw [if_pos hA, if_neg (show ¬ max b lo < min next hi by omega), if_neg (show ¬ max b hi < next by omega)]
      exact ⟨q1, by omega⟩
  · rw [if_neg hA]
    have e1 : max b lo = b := by omega
    rw [e1]
    by_cases hD : b < hi
    · have h2 := key out b b (min next hi) (do_ f) 0 ⟨h, by omega⟩ (by omega) (fun _ => rfl) (fun h9 => by omega) (fun t h1 h2 => by rw [hg t (by omega) (by omega), if_pos (by omega)]) _ rfl
      by_cases hC : hi < next
      · have e2 : min next hi = hi := by omega
        have e3 : max b hi = hi := by omega
        rw [e2] at h2 ⊢
        rw [e3]
        have h3 := key _ hi hi next f (0 + if b < hi then 1 else 0) ⟨h2.1, by rw [← Nat.add_assoc]; exact h2.2⟩ (by omega) (fun _ => rfl) (fun h9 => by omega) (fun t h1 h2 => by rw [hg t (by omega) (by omega), if_neg (by omega)]) _ rfl
        refine ⟨h3.1, Nat.le_trans h3.2 ?_⟩
        rw [if_pos hD, if_pos hC, if_pos (show b ≤ hi ∧ hi < next by omega)]
        omega
      · have e2 : min next hi = next := by omega
        rw [e2] at h2 ⊢
        rw [if_neg (show ¬ max b hi < next by omega)]
        refine ⟨h2.1, Nat.le_trans h2.2 ?_⟩
        rw [if_pos hb]
        omega
    · -- all behind
      obtain ⟨q1, q2, _⟩ := h.put (b := next) (f := f) h0 hb (fun t h1 h2 => by rw [hg t h1 h2, if_neg (by omega)])
      rw [if_neg (show ¬ b < min next hi by omega), if_pos (show max b hi < next by omega), show max b hi = b by omega]
      exact ⟨q1, by omega⟩
theorem nextAt_le {d : α} {x : Sp α} {r : List (Sp α)} {E : Int} (hc : Can (x :: r)) (hE : ∀ s ∈ x :: r, s.at_ < E) : x.at_ < nextAt E r ∧ nextAt E r ≤ E := by
  cases r with
  | nil => exact ⟨hE x (by simp), Int.le_refl _⟩
  | cons y r => exact ⟨hc.1, Int.le_of_lt (hE y (by simp))⟩
theorem turn_tells {d : α} {t0 E lo hi : Int} {do_ : α → α} (hlh : lo < hi) : ∀ {rest out : List (Sp α)} {g : Int → α}, Can rest → (∀ s ∈ rest, s.at_ < E) → t0 ≤ nextAt E rest → Tells d g t0 (nextAt E rest) out →
    (∀ t, nextAt E rest ≤ t → t < E → g t = turnF lo hi do_ (frA d rest) t) →
    Tells d g t0 E (turnL E lo hi do_ out rest) ∧ (turnL E lo hi do_ out rest).length ≤ out.length + rest.length + (if nextAt E rest ≤ lo ∧ lo < E then 1 else 0) + (if nextAt E rest ≤ hi ∧ hi < E then 1 else 0)
  | [], out, g, _, _, _, h, _ => ⟨h, by simp only [turnL, nextAt, List.length_nil]; omega⟩
  | x :: r, out, g, hc, hE, h0, h, hg => by
    obtain ⟨hn1, hn2⟩ := nextAt_le (d := d) hc hE
    have hseg : ∀ t, x.at_ ≤ t → t < nextAt E r → frA d (x :: r) t = x.free := by
      intro t h1 h2
      cases r with
      | nil => rfl
      | cons y r => show (if t < y.at_ then x.free else _) = _; rw [if_pos (show t < y.at_ from h2)]
    have hsuf : ∀ t, nextAt E r ≤ t → t < E → frA d (x :: r) t = frA d r t := by
      intro t h1 h2
      cases r with
      | nil => simp only [nextAt] at h1; omega
      | cons y r => show (if t < y.at_ then x.free else _) = _; rw [if_neg (show ¬ t < y.at_ by simp only [nextAt] at h1; omega)]
    obtain ⟨q1, q2⟩ := turn1_tells (b := x.at_) (next := nextAt E r) (f := x.free) (do_ := do_) (show Tells d g t0 x.at_ out from h) h0 hn1 hlh (fun t h1 h2 => by
      rw [hg t h1 (by omega)]
      unfold turnF
      rw [hseg t h1 h2])
    obtain ⟨p1, p2⟩ := turn_tells (d := d) (t0 := t0) hlh (rest := r) hc.tail (fun s hs => hE s (List.mem_cons_of_mem _ hs)) (by simp only [nextAt] at h0; omega) q1 (fun t h1 h2 => by
      rw [hg t (by simp only [nextAt]; omega) h2]
      unfold turnF
      rw [hsuf t h1 h2])
    refine ⟨p1, ?_⟩
    show (turnL E lo hi do_ (turn1 out x.at_ (nextAt E r) lo hi x.free do_) r).length ≤ out.length + (r.length + 1) + (if x.at_ ≤ lo ∧ lo < E then 1 else 0) + (if x.at_ ≤ hi ∧ hi < E then 1 else 0)
    have hl : (turn1 out x.at_ (nextAt E r) lo hi x.free do_).length ≤ out.length + 1 + (if x.at_ ≤ lo ∧ lo < nextAt E r then 1 else 0) + (if x.at_ ≤ hi ∧ hi < nextAt E r then 1 else 0) := q2
    have ha : (if x.at_ ≤ lo ∧ lo < nextAt E r then 1 else 0) + (if nextAt E r ≤ lo ∧ lo < E then 1 else 0) ≤ (if x.at_ ≤ lo ∧ lo < E then 1 else 0 : Nat) := by split <;> split <;> split <;> omega
    have hb : (if x.at_ ≤ hi ∧ hi < nextAt E r then 1 else 0) + (if nextAt E r ≤ hi ∧ hi < E then 1 else 0) ≤ (if x.at_ ≤ hi ∧ hi < E then 1 else 0 : Nat) := by split <;> split <;> split <;> omega
    generalize (if x.at_ ≤ lo ∧ lo < nextAt E r then 1 else 0 : Nat) = A1 at *
    generalize (if nextAt E r ≤ lo ∧ lo < E then 1 else 0 : Nat) = A2 at *
    generalize (if x.at_ ≤ lo ∧ lo < E then 1 else 0 : Nat) = A3 at *
    generalize (if x.at_ ≤ hi ∧ hi < nextAt E r then 1 else 0 : Nat) = B1 at *
    generalize (if nextAt E r ≤ hi ∧ hi < E then 1 else 0 : Nat) = B2 at *
    generalize (if x.at_ ≤ hi ∧ hi < E then 1 else 0 : Nat) = B3 at *
    omega

/-- A profile's steps: from t0 to E. -/
structure Prf (t0 E : Int) (l : List (Sp α)) : Prop where
  can : Can l
  lt : ∀ s ∈ l, s.at_ < E
  first : ∃ x r, l = x :: r ∧ x.at_ = t0
theorem turn_prf {d : α} {t0 E lo hi : Int} {do_ : α → α} {l : List (Sp α)} (h : Prf t0 E l) (hlh : lo < hi) :
    Prf t0 E (turnL E lo hi do_ [] l) ∧ (∀ t, t0 ≤ t → t < E → frA d (turnL E lo hi do_ [] l) t = turnF lo hi do_ (frA d l) t) ∧ (turnL E lo hi do_ [] l).length ≤ l.length + 2 := by
  obtain ⟨x, r, rfl, hx⟩ := h.first
  have hxE := h.lt x (by simp)
  obtain ⟨q1, q2⟩ := turn_tells (d := d) (t0 := t0) (out := []) (do_ := do_) (g := turnF lo hi do_ (frA d (x :: r))) hlh h.can h.lt (by simp only [nextAt]; omega)
    ⟨trivial, (fun _ => hx), (fun s hs => by cases hs), (fun y r hy => by cases hy), fun t h1 h2 => by simp only [nextAt] at h2; omega⟩ (fun t _ _ => rfl)
  refine ⟨⟨q1.can, q1.lt, ?_⟩, q1.is, ?_⟩
  · cases hT : turnL E lo hi do_ [] (x :: r) with
    | nil => have := q1.none hT; omega
    | cons y s => exact ⟨y, s, rfl, q1.first y s hT⟩
  · have h3 : (if nextAt E (x :: r) ≤ lo ∧ lo < E then 1 else 0) ≤ (1 : Nat) := by split <;> omega
    have h4 : (if nextAt E (x :: r) ≤ hi ∧ hi < E then 1 else 0) ≤ (1 : Nat) := by split <;> omega
    simp only [List.length_nil] at q2
    omega
theorem prf_unique {d : α} {t0 E : Int} {l r : List (Sp α)} (hl : Prf t0 E l) (hr : Prf t0 E r) (h : ∀ t, t0 ≤ t → t < E → frA d l t = frA d r t) : l = r := by
  obtain ⟨x, l', e1, hx⟩ := hl.first
  obtain ⟨y, r', e2, hy⟩ := hr.first
  exact can_unique d E hl.can hr.can hl.lt hr.lt e1 e2 (by omega) (fun t h1 h2 => h t (by omega) h2)
end
end Go.Proofs.YtkgphbjneaagoaaDoor
