/- Share: what Load reads, in plain. -/
import Derived.Test.YtflgnlpippjhcaaUs
set_option linter.unusedVariables false
set_option maxRecDepth 100000
namespace Go.Proofs.Ytflgnlpippjhcaa
open Go.RowKit Go.Sort Go.Maps

/-! ### one number, one text -/
theorem inR_le {bs : List UInt8} {p : Nat} {y f hi : Int} {v : Int} {q : Nat} {y' f' : Int} (hp : p ≤ bs.length) (hh : 0 ≤ hi) (h : inR bs p y f 0 hi = (v, q, y', f')) : q ≤ bs.length ∧ 0 ≤ v ∧ v ≤ hi := by
  obtain ⟨v1, q1, y1, f1, ht⟩ : ∃ v1 q1 y1 f1, pkR bs p y f = (v1, q1, y1, f1) := ⟨_, _, _, _, rfl⟩
  unfold inR at h
  rw [ht] at h
  simp only at h
  split at h
  · rename_i hw
    split at h
    · simp only [Prod.mk.injEq] at h
      obtain ⟨rfl, rfl, _, _⟩ := h
      exact ⟨hp, by omega, hh⟩
    · rename_i hb
      simp only [Prod.mk.injEq] at h
      obtain ⟨rfl, rfl, _, _⟩ := h
      obtain ⟨_, _, _, h1, h2, _⟩ := pk_le hp ht hw
      exact ⟨h2, by omega, by omega⟩
  · simp only [Prod.mk.injEq] at h
    obtain ⟨rfl, rfl, _, _⟩ := h
    exact ⟨hp, by omega, hh⟩
theorem textR_le {bs : List UInt8} {p : Nat} {y f : Int} {s : List UInt8} {q : Nat} {y' f' : Int} (hp : p ≤ bs.length) (h : textR bs p y f 16 = (s, q, y', f')) : q ≤ bs.length ∧ s.length ≤ 16 := by
  obtain ⟨v1, q1, y1, f1, ht⟩ : ∃ v1 q1 y1 f1, pkR bs p y f = (v1, q1, y1, f1) := ⟨_, _, _, _, rfl⟩
  unfold textR at h
  rw [ht] at h
  simp only at h
  split at h
  · rename_i hw
    obtain ⟨_, _, _, h1, h2, _⟩ := pk_le hp ht hw
    split at h
    · simp only [Prod.mk.injEq] at h
      obtain ⟨rfl, rfl, _, _⟩ := h
      exact ⟨hp, by simp⟩
    · split at h
      · simp only [Prod.mk.injEq] at h
        obtain ⟨rfl, rfl, _, _⟩ := h
        exact ⟨hp, by simp⟩
      · simp only [Prod.mk.injEq] at h
        obtain ⟨rfl, rfl, _, _⟩ := h
        refine ⟨by omega, ?_⟩
        rw [List.length_take]
        omega
  · simp only [Prod.mk.injEq] at h
    obtain ⟨rfl, rfl, _, _⟩ := h
    exact ⟨hp, by simp⟩
/-! ### the records -/
abbrev RSt := Nat × Int × Int
def nameR (bs : List UInt8) (s : RSt) : Nm × RSt := textR bs s.1 s.2.1 s.2.2 16
def hasR (bs : List UInt8) (s : RSt) : Int × RSt := inR bs s.1 s.2.1 s.2.2 0 1152921504606846976
def atR (bs : List UInt8) (s : RSt) : Int × RSt := inR bs s.1 s.2.1 s.2.2 0 1099511627776
/-- A record, and where it ends. -/
def recR (bs : List UInt8) (s : RSt) : (Nm × Ac) × RSt :=
  (((nameR bs s).1, ⟨(hasR bs (nameR bs s).2).1, (atR bs (hasR bs (nameR bs s).2).2).1⟩), (atR bs (hasR bs (nameR bs s).2).2).2)
def loadK (bs : List UInt8) : Nat → RSt → Nm → Led → Option (Led × RSt)
  | 0, s, last, L => some (L, s)
  | k + 1, s, last, L => if (recR bs s).1.1 ≤ last then none else loadK bs k (recR bs s).2 (recR bs s).1.1 (L ++ [(recR bs s).1])
def numR (bs : List UInt8) : Int × RSt := inR bs 0 0 0 0 1024
def loadS (bs : List UInt8) : Option (Led × RSt) := loadK bs (numR bs).1.toNat (numR bs).2 [] []
def endOk (bs : List UInt8) (s : RSt) : Bool := wellB (endR s.1 bs.length s.2.1 s.2.2).1 (endR s.1 bs.length s.2.1 s.2.2).2
def loadB (bs : List UInt8) : Option Led := match loadS bs with
  | none => none
  | some (L, s) => if endOk bs s = true then some L else none
/-- What holds of a ledger that is being read: k records are left. -/
structure LdI (half : Int) (L : Led) (last : Nm) (k : Nat) : Prop where
  ok : LOk half L
  up : ∀ q ∈ L, q.1 ≤ last
  room : L.length + k ≤ 1024
theorem ldI_new {half : Int} (h : 1 ≤ half ∧ half ≤ 1000000) {k : Nat} (hk : k ≤ 1024) : LdI half [] [] k := ⟨new_ok h, fun q hq => (by cases hq), by simpa using hk⟩
theorem nm_not_le {a b : Nm} (h : ¬ a ≤ b) : b < a := List.not_le.1 h
theorem nm_le_lt {a b c : Nm} (h : a ≤ b) (k : b < c) : a < c := List.lt_of_le_of_lt h k
theorem nm_pos {a b : Nm} (h : b < a) : a ≠ [] := by
  rintro rfl
  exact absurd h (List.not_lt_nil _)
theorem put_end {W : Led} {n : Nm} {a : Ac} (h : ∀ q ∈ W, q.1 < n) : put W n a = W ++ [(n, a)] := by
  induction W with
  | nil => rfl
  | cons x r ih =>
    obtain ⟨m, b⟩ := x
    unfold put
    rw [if_pos (h (m, b) (List.mem_cons_self ..)), ih fun q hq => h q (List.mem_cons_of_mem _ hq)]
    rfl
theorem LdI.step {half : Int} {L : Led} {last s : Nm} {k : Nat} {h t : Int} (hI : LdI half L last (k + 1)) (hlt : ¬ s ≤ last) (hs : s.length ≤ 16) (h0 : 0 ≤ h ∧ h ≤ 1152921504606846976) (t0 : 0 ≤ t ∧ t ≤ 1099511627776) :
    LdI half (L ++ [(s, ⟨h, t⟩)]) s k ∧ look L s = none ∧ put L s ⟨h, t⟩ = L ++ [(s, ⟨h, t⟩)] := by
  have hl := nm_not_le hlt
  have hup : ∀ q ∈ L, q.1 < s := fun q hq => nm_le_lt (hI.up q hq) hl
  have hp : put L s ⟨h, t⟩ = L ++ [(s, ⟨h, t⟩)] := put_end hup
  have hr := hI.room
  refine ⟨⟨⟨?_, ?_, ?_, ?_, hI.ok.half⟩, ?_, ?_⟩, look_none.2 fun q hq => nm_ne (hup q hq), hp⟩
  · rw [← hp]; exact put_ris hI.ok.ris s _
  · simp; omega
  · intro p hp
    rcases List.mem_append.1 hp with hp | hp
    · exact hI.ok.nm p hp
    · simp at hp; subst hp; exact ⟨nm_pos hl, hs⟩
  · intro p hp
    rcases List.mem_append.1 hp with hp | hp
    · exact hI.ok.ac p hp
    · simp at hp; subst hp; exact ⟨h0.1, h0.2, t0.1, t0.2⟩
  · intro p hp
    rcases List.mem_append.1 hp with hp | hp
    · exact List.le_of_lt (hup p hp)
    · simp at hp; subst hp; exact List.le_refl _
  · simp; omega
theorem loadK_ok {half : Int} {bs : List UInt8} : ∀ (k : Nat) (s : RSt) (last : Nm) (L L' : Led) (s' : RSt), LdI half L last k → s.1 ≤ bs.length → loadK bs k s last L = some (L', s') → LOk half L' ∧ s'.1 ≤ bs.length
  | 0, s, last, L, L', s', hI, hp, h => by
    unfold loadK at h
    cases h
    exact ⟨hI.ok, hp⟩
  | k + 1, s, last, L, L', s', hI, hp, h => by
    unfold loadK at h
    split at h
    · cases h
    · rename_i hlt
      have h1 := textR_le hp (show textR bs s.1 s.2.1 s.2.2 16 = ((nameR bs s).1, (nameR bs s).2.1, (nameR bs s).2.2.1, (nameR bs s).2.2.2) from rfl)
      have h2 := inR_le h1.1 (by omega) (show inR bs (nameR bs s).2.1 (nameR bs s).2.2.1 (nameR bs s).2.2.2 0 1152921504606846976 = ((hasR bs (nameR bs s).2).1, (hasR bs (nameR bs s).2).2.1, (hasR bs (nameR bs s).2).2.2.1, (hasR bs (nameR bs s).2).2.2.2) from rfl)
      have h3 := inR_le h2.1 (by omega) (show inR bs (hasR bs (nameR bs s).2).2.1 (hasR bs (nameR bs s).2).2.2.1 (hasR bs (nameR bs s).2).2.2.2 0 1099511627776 = ((atR bs (hasR bs (nameR bs s).2).2).1, (atR bs (hasR bs (nameR bs s).2).2).2.1, (atR bs (hasR bs (nameR bs s).2).2).2.2.1, (atR bs (hasR bs (nameR bs s).2).2).2.2.2) from rfl)
      exact loadK_ok k _ _ _ _ _ (hI.step hlt h1.2 h2.2 h3.2).1 h3.1 h
theorem loadS_ok {half : Int} {bs : List UInt8} (hh : 1 ≤ half ∧ half ≤ 1000000) {L : Led} {s : RSt} (h : loadS bs = some (L, s)) : LOk half L ∧ s.1 ≤ bs.length := by
  have h1 := inR_le (Nat.zero_le bs.length) (by omega) (show inR bs 0 0 0 0 1024 = ((numR bs).1, (numR bs).2.1, (numR bs).2.2.1, (numR bs).2.2.2) from rfl)
  exact loadK_ok _ _ _ _ _ _ (ldI_new hh (by omega)) h1.1 h
theorem loadB_ok {half : Int} {bs : List UInt8} (hh : 1 ≤ half ∧ half ≤ 1000000) {L : Led} (h : loadB bs = some L) : LOk half L := by
  unfold loadB at h
  split at h
  · cases h
  · rename_i L' s hs
    split at h
    · cases h
      exact (loadS_ok hh hs).1
    · cases h
/-! ### what was saved is read -/
theorem pk_enc {bs r : List UInt8} {p : Nat} {x : Int} (h0 : -9223372036854775808 ≤ x) (h1 : x ≤ 9223372036854775807) (h : bs.drop p = encI x ++ r) : pkR bs p 0 0 = (x, p + (encI x).length, 0, 0) := by
  rw [pk_ok (u := Lib.zigzag x) (k := (encI x).length) (by decide) (by rw [h]; exact dec_enc h0 h1 r), unzig_zigzag]
theorem in_enc {bs r : List UInt8} {p : Nat} {x hi : Int} (h0 : 0 ≤ x) (h1 : x ≤ hi) (h2 : hi ≤ 9223372036854775807) (h : bs.drop p = encI x ++ r) : inR bs p 0 0 0 hi = (x, p + (encI x).length, 0, 0) := by
  unfold inR
  rw [pk_enc (by omega) (by omega) h]
  simp only
  rw [if_pos (by decide), if_neg (by omega)]
theorem text_enc {bs r : List UInt8} {p : Nat} {s : Nm} (hs : s.length ≤ 16) (h : bs.drop p = (encI s.length ++ s) ++ r) : textR bs p 0 0 16 = (s, p + (encI s.length ++ s).length, 0, 0) := by
  have h2 : bs.drop p = encI s.length ++ (s ++ r) := by rw [h, List.append_assoc]
  have h3 : bs.drop (p + (encI s.length).length) = s ++ r := by
    rw [← List.drop_drop, h2, List.drop_left]
  have h4 := congrArg List.length h3
  rw [List.length_drop, List.length_append] at h4
  have h8 := congrArg List.length h2
  rw [List.length_drop, List.length_append] at h8
  have h9 := (encI_len (n := ((s.length : Nat) : Int)) (by omega) (by omega)).1
  unfold textR
  rw [pk_enc (by omega) (by omega) h2]
  simp only
  rw [if_pos (by decide), if_neg (by omega), if_neg (by omega)]
  refine Prod.ext ?_ (Prod.ext ?_ rfl)
  · show (bs.drop (p + (encI s.length).length)).take ((s.length : Int)).toNat = _
    rw [h3, Int.toNat_natCast, List.take_left]
  · show p + (encI s.length).length + ((s.length : Int)).toNat = p + (encI s.length ++ s).length
    rw [List.length_append, Int.toNat_natCast, Nat.add_assoc]
theorem rec_enc {half : Int} {L : Led} (hL : LOk half L) {q : Nm × Ac} (hq : q ∈ L) {bs r : List UInt8} {p : Nat} (h : bs.drop p = recB q ++ r) : recR bs (p, 0, 0) = (q, (p + (recB q).length, 0, 0)) := by
  obtain ⟨n, c⟩ := q
  have hn := (hL.nm _ hq).2
  have hc := hL.ac _ hq
  have e0 : recB (n, c) = (encI n.length ++ n) ++ (encI c.has ++ encI c.at_) := by unfold recB; simp [encL]
  rw [e0, List.append_assoc] at h
  have h1 : nameR bs (p, 0, 0) = (n, (p + (encI n.length ++ n).length, 0, 0)) := text_enc hn h
  have d1 : bs.drop (p + (encI n.length ++ n).length) = encI c.has ++ (encI c.at_ ++ r) := by
    rw [← List.drop_drop, h, List.drop_left, List.append_assoc]
  have h2 : hasR bs (p + (encI n.length ++ n).length, 0, 0) = (c.has, (p + (encI n.length ++ n).length + (encI c.has).length, 0, 0)) := in_enc hc.h0 hc.h1 (by omega) d1
  have d2 : bs.drop (p + (encI n.length ++ n).length + (encI c.has).length) = encI c.at_ ++ r := by
    rw [← List.drop_drop, d1, List.drop_left]
  have h3 : atR bs (p + (encI n.length ++ n).length + (encI c.has).length, 0, 0) = (c.at_, (p + (encI n.length ++ n).length + (encI c.has).length + (encI c.at_).length, 0, 0)) := in_enc hc.t0 hc.t1 (by omega) d2
  unfold recR
  rw [h1]
  simp only
  rw [h2]
  simp only
  rw [h3]
  refine Prod.ext rfl ?_
  show (_, _) = (_, _)
  rw [e0]
  simp only [List.length_append]
  refine Prod.ext ?_ rfl
  show _ + _ = _ + _
  omega
theorem loadK_enc {half : Int} {bs : List UInt8} : ∀ (M L : Led) (p : Nat) (last : Nm), LOk half (L ++ M) → (∀ q ∈ M, last < q.1) → bs.drop p = M.flatMap recB → loadK bs M.length (p, 0, 0) last L = some (L ++ M, (p + (M.flatMap recB).length, 0, 0))
  | [], L, p, last, h, hl, hd => by simp [loadK]
  | q :: M, L, p, last, h, hl, hd => by
    rw [List.flatMap_cons] at hd
    have hr := rec_enc h (q := q) (by simp) hd
    rw [List.length_cons]
    unfold loadK
    rw [hr, if_neg (fun h1 => nm_irrefl q.1 (nm_le_lt h1 (hl q (List.mem_cons_self ..))))]
    have hris := h.ris
    unfold Ris at hris
    rw [List.pairwise_append] at hris
    have h1 := (List.pairwise_cons.1 hris.2.1).1
    have e : L ++ q :: M = (L ++ [q]) ++ M := by simp
    rw [e] at h
    have := loadK_enc M (L ++ [q]) (p + (recB q).length) q.1 h h1 (by rw [← List.drop_drop, hd, List.drop_left])
    show loadK bs M.length (p + (recB q).length, 0, 0) q.1 (L ++ [q]) = _
    rw [this, e]
    simp only [List.flatMap_cons, List.length_append, Nat.add_assoc]
theorem load_save {half : Int} {L : Led} (h : LOk half L) : loadB (saveB L) = some L := by
  have hn : numR (saveB L) = ((L.length : Int), ((encI L.length).length, 0, 0)) := by
    have := in_enc (bs := saveB L) (p := 0) (x := (L.length : Int)) (hi := 1024) (r := L.flatMap recB) (by omega) (by have := h.len; omega) (by omega) (by rw [List.drop_zero]; rfl)
    rw [Nat.zero_add] at this
    exact this
  have hk := loadK_enc (bs := saveB L) L [] (encI L.length).length [] (by simpa using h) (fun q hq => by
    have := (h.nm q hq).1
    cases hq1 : q.1 with
    | nil => exact absurd hq1 this
    | cons x r => exact List.nil_lt_cons ..) (by unfold saveB; rw [List.drop_left])
  unfold loadB loadS
  rw [hn]
  simp only [Int.toNat_natCast]
  rw [hk]
  simp only [List.nil_append]
  have e : (saveB L).length = (encI L.length).length + (L.flatMap recB).length := by unfold saveB; rw [List.length_append]
  have h1 : endOk (saveB L) ((encI L.length).length + (L.flatMap recB).length, 0, 0) = true := by
    unfold endOk endR
    rw [if_neg (by rw [e]; omega)]
    rfl
  rw [if_pos h1]
end Go.Proofs.Ytflgnlpippjhcaa
