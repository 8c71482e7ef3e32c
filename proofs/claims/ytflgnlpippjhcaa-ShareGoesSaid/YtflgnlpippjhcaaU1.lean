/- Share: plain facts: what a ledger answers. No program in sight. -/
import Derived.Test.YtflgnlpippjhcaaU0
import Derived.Test.YtflgnlpippjhcaaYp
set_option linter.unusedVariables false
namespace Go.Proofs.Ytflgnlpippjhcaa
open Go.RowKit Go.Sort Go.Maps

/-- How many half-lives later. -/
def perd (half : Int) (a : Ac) (now : Int) : Int := (now - a.at_).tdiv half
def lat (half : Int) (a : Ac) (now : Int) : Ac := ⟨halvesV a.has (perd half a now), a.at_ + perd half a now * half⟩
def timeP (now : Int) : Prop := 0 ≤ now ∧ now ≤ 1099511627776
instance (now : Int) : Decidable (timeP now) := inferInstanceAs (Decidable (_ ∧ _))
structure AcOk (a : Ac) : Prop where
  h0 : 0 ≤ a.has
  h1 : a.has ≤ 1152921504606846976
  t0 : 0 ≤ a.at_
  t1 : a.at_ ≤ 1099511627776
structure LOk (half : Int) (L : Led) : Prop where
  ris : Ris L
  len : L.length ≤ 1024
  nm : ∀ p ∈ L, p.1 ≠ [] ∧ p.1.length ≤ 16
  ac : ∀ p ∈ L, AcOk p.2
  half : 1 ≤ half ∧ half ≤ 1000000
/-- A user's account, if the time may be; of nobody: nothing. -/
def acc (L : Led) (n : Nm) : Ac := (look L n).getD ⟨0, 0⟩
def userE (L : Led) (n : Nm) (now : Int) : Int := if timeP now ∧ (acc L n).at_ ≤ now then 0 else 1
def usedV (half : Int) (L : Led) (n : Nm) (now : Int) : Int := if userE L n now = 0 then (lat half (acc L n) now).has else 0
def mayE (n : Nm) (amount : Int) : Int := if n = [] ∨ 16 < n.length ∨ amount < 0 ∨ 1099511627776 < amount then 1 else 0
def addE (L : Led) (n : Nm) (amount now : Int) : Int :=
  if userE L n now = 1 then 1 else if mayE n amount = 1 then 1 else if (look L n).isNone = true ∧ 1024 ≤ L.length then 5 else 0
def newAc (half : Int) (L : Led) (n : Nm) (amount now : Int) : Ac :=
  let b : Ac := match look L n with | some a => lat half a now | none => ⟨0, now⟩
  ⟨min (b.has + amount) 1152921504606846976, b.at_⟩
def addL (half : Int) (L : Led) (n : Nm) (amount now : Int) : Led := if addE L n amount now = 0 then put L n (newAc half L n amount now) else L

theorem acOk_zero : AcOk ⟨0, 0⟩ := ⟨by decide, by decide, by decide, by decide⟩
theorem LOk.acc {half : Int} {L : Led} (h : LOk half L) (n : Nm) : AcOk (acc L n) := by
  unfold Go.Proofs.Ytflgnlpippjhcaa.acc
  cases hl : look L n with
  | none => exact acOk_zero
  | some a => exact h.ac _ (look_mem hl)
theorem userE_cases (L : Led) (n : Nm) (now : Int) : userE L n now = 0 ∨ userE L n now = 1 := by unfold userE; split <;> simp
theorem userE_zero {L : Led} {n : Nm} {now : Int} : userE L n now = 0 ↔ timeP now ∧ (acc L n).at_ ≤ now := by unfold userE; split <;> simp_all
theorem mayE_cases (n : Nm) (amount : Int) : mayE n amount = 0 ∨ mayE n amount = 1 := by unfold mayE; split <;> simp
theorem perd_eq {half : Int} {a : Ac} {now : Int} (h1 : 1 ≤ half) (h : a.at_ ≤ now) : perd half a now = (now - a.at_) / half := by
  unfold perd
  exact Int.tdiv_eq_ediv_of_nonneg (by omega)
theorem perd_bounds {half : Int} {a : Ac} {now : Int} (h1 : 1 ≤ half) (h : a.at_ ≤ now) : 0 ≤ perd half a now ∧ perd half a now * half ≤ now - a.at_ ∧ perd half a now ≤ now - a.at_ := by
  rw [perd_eq h1 h]
  refine ⟨Int.ediv_nonneg (by omega) (by omega), Int.ediv_mul_le _ (by omega), ?_⟩
  exact Int.ediv_le_self _ (by omega)
theorem lat_ok {half : Int} {a : Ac} {now : Int} (h1 : 1 ≤ half) (ha : AcOk a) (h : a.at_ ≤ now) (hn : now ≤ 1099511627776) : AcOk (lat half a now) ∧ (lat half a now).at_ ≤ now := by
  have hp := perd_bounds h1 h
  have hb := (halves_bounds a.has (perd half a now)).1 ha.h0
  have hm : 0 ≤ perd half a now * half := Int.mul_nonneg hp.1 (by omega)
  have h0 := ha.h1; have t0 := ha.t0
  unfold lat
  exact ⟨⟨hb.1, by simp only; omega, by simp only; omega, by simp only; omega⟩, by simp only; omega⟩
theorem LOk.used {half : Int} {L : Led} (h : LOk half L) (n : Nm) (now : Int) : 0 ≤ usedV half L n now ∧ usedV half L n now ≤ 1152921504606846976 := by
  unfold usedV
  by_cases hu : userE L n now = 0
  · rw [if_pos hu]
    obtain ⟨⟨_, h2⟩, h3⟩ := userE_zero.1 hu
    have := (lat_ok h.half.1 (h.acc n) h3 h2).1
    exact ⟨this.h0, this.h1⟩
  · rw [if_neg hu]; omega
theorem newAc_ok {half : Int} {L : Led} (h : LOk half L) {n : Nm} {amount now : Int} (he : addE L n amount now = 0) : AcOk (newAc half L n amount now) := by
  unfold addE at he
  have hu : userE L n now = 0 := by
    rcases userE_cases L n now with h1 | h1
    · exact h1
    · rw [if_pos h1] at he; omega
  have hm : mayE n amount = 0 := by
    rcases mayE_cases n amount with h1 | h1
    · exact h1
    · rw [if_neg (by omega), if_pos h1] at he; omega
  have hm2 : 0 ≤ amount ∧ amount ≤ 1099511627776 := by
    unfold mayE at hm
    split at hm
    · omega
    · rename_i h3
      simp only [not_or] at h3
      omega
  obtain ⟨⟨h0, h1⟩, h2⟩ := userE_zero.1 hu
  unfold newAc
  cases hl : look L n with
  | none => exact ⟨by simp only; omega, by simp only; omega, h0, h1⟩
  | some a =>
    have ha : Go.Proofs.Ytflgnlpippjhcaa.acc L n = a := by unfold Go.Proofs.Ytflgnlpippjhcaa.acc; rw [hl]; rfl
    rw [ha] at h2
    have hq := (lat_ok h.half.1 (h.ac _ (look_mem hl)) h2 h1).1
    have a0 : 0 ≤ (lat half a now).has := hq.h0
    exact ⟨by simp only; omega, by simp only; omega, hq.t0, hq.t1⟩
theorem addL_ok {half : Int} {L : Led} (h : LOk half L) (n : Nm) (amount now : Int) : LOk half (addL half L n amount now) := by
  unfold addL
  by_cases he : addE L n amount now = 0
  · rw [if_pos he]
    have hq := newAc_ok h he
    have hn : n ≠ [] ∧ n.length ≤ 16 := by
      unfold addE at he
      have hm : mayE n amount = 0 := by
        rcases mayE_cases n amount with h1 | h1
        · exact h1
        · split at he
          · omega
          · first | (rw [if_pos h1] at he; omega) | omega
      unfold mayE at hm
      split at hm
      · omega
      · rename_i h3
        simp only [not_or] at h3
        exact ⟨h3.1, by omega⟩
    refine ⟨put_ris h.ris n _, ?_, fun p hp => ?_, fun p hp => ?_, h.half⟩
    · rw [put_len h.ris]
      cases hl : look L n with
      | some a => simp [h.len]
      | none =>
        unfold addE at he
        rw [hl] at he
        have h3 : ¬ 1024 ≤ L.length := by
          intro h4
          split at he
          · omega
          · split at he
            · omega
            · rw [if_pos ⟨rfl, h4⟩] at he; omega
        simp; omega
    · rcases mem_put hp with rfl | hp
      · exact hn
      · exact h.nm p hp
    · rcases mem_put hp with rfl | hp
      · exact hq
      · exact h.ac p hp
  · rw [if_neg he]; exact h
theorem new_ok {half : Int} (h : 1 ≤ half ∧ half ≤ 1000000) : LOk half [] where
  ris := List.Pairwise.nil
  len := by simp
  nm := fun p hp => absurd hp (by simp)
  ac := fun p hp => absurd hp (by simp)
  half := h
/-! ### what all have used -/
def valT (half now : Int) (p : Nm × Ac) : Int := if p.2.at_ ≤ now then (lat half p.2 now).has else 0
def totT (half : Int) (L : Led) (now : Int) : Int := (L.map (valT half now)).sum
def totV (half : Int) (L : Led) (now : Int) : Int := if timeP now then mostV (totT half L now) else 0
def totE (now : Int) : Int := if timeP now then 0 else 1
theorem val_bounds {half now : Int} {p : Nm × Ac} (h1 : 1 ≤ half) (ha : AcOk p.2) (hn : now ≤ 1099511627776) : 0 ≤ valT half now p ∧ valT half now p ≤ 1152921504606846976 := by
  unfold valT
  split
  · rename_i h
    have := (lat_ok h1 ha h hn).1
    exact ⟨this.h0, this.h1⟩
  · omega
theorem sum_nonneg : ∀ {l : List Int}, (∀ x ∈ l, 0 ≤ x) → 0 ≤ l.sum
  | [], _ => by simp
  | x :: l, h => by
    rw [List.sum_cons]
    have h1 := h x (List.mem_cons_self ..)
    have h2 := sum_nonneg (l := l) fun y hy => h y (List.mem_cons_of_mem _ hy)
    omega
theorem tot_nonneg {half : Int} {L : Led} (h : LOk half L) {now : Int} (hn : now ≤ 1099511627776) : 0 ≤ totT half L now := sum_nonneg fun x hx => by
  obtain ⟨p, hp, rfl⟩ := List.mem_map.1 hx
  exact (val_bounds h.half.1 (h.ac p hp) hn).1
theorem most_nonneg {x : Int} (h : 0 ≤ x) : mostV x = min x 9223372036854775807 := by
  unfold mostV
  rw [if_neg (by omega)]
  split <;> omega
/-- The sum of what is no longer to come, whatever the order. -/
def doneT (half now : Int) (L : Led) (left : Lit → Bool) : Int := (L.map fun p => if left (.string p.1) = true then 0 else valT half now p).sum
theorem done_start (half now : Int) (L : Led) : doneT half now L (Maps.has (ledD L)) = 0 := by
  have key : ∀ K : Led, (∀ p ∈ K, Maps.has (ledD L) (.string p.1) = true) → doneT half now K (Maps.has (ledD L)) = 0 := by
    intro K
    induction K with
    | nil => intro _; rfl
    | cons p K ih =>
      intro h
      unfold doneT at ih ⊢
      rw [List.map_cons, List.sum_cons, if_pos (h p (List.mem_cons_self ..)), ih fun q hq => h q (List.mem_cons_of_mem _ hq)]
      rfl
  refine key L fun p hp => ?_
  rw [led_has]
  cases hl : look L p.1 with
  | some a => rfl
  | none => exact absurd rfl (look_none.1 hl p hp)
theorem done_end {half now : Int} {L : Led} {left : Lit → Bool} (h : ∀ k, left k = false) : doneT half now L left = totT half L now := by
  unfold doneT totT
  refine congrArg _ (List.map_congr_left fun p _ => ?_)
  rw [h]; rfl
theorem done_step {half now : Int} {L : Led} (hL : Ris L) {left : Lit → Bool} {n : Nm} {a : Ac} (hl : left (.string n) = true) (ha : look L n = some a) :
    doneT half now L (fun z => left z && !z.sameKey (.string n)) = doneT half now L left + valT half now (n, a) := by
  have none_ : ∀ K : Led, (∀ p ∈ K, p.1 ≠ n) → doneT half now K (fun z => left z && !z.sameKey (.string n)) = doneT half now K left := by
    intro K hK
    unfold doneT
    refine congrArg _ (List.map_congr_left fun p hp => ?_)
    have : (p.1 == n) = false := beq_false_of_ne (hK p hp)
    simp [same_str, this]
  induction L with
  | nil => cases ha
  | cons x r ih =>
    obtain ⟨m, b⟩ := x
    obtain ⟨h1, h2⟩ := List.pairwise_cons.1 hL
    unfold look at ha
    by_cases e : m = n
    · rw [if_pos e] at ha
      cases ha; subst e
      have h3 := none_ r fun p hp => (nm_ne (h1 p hp)).symm
      unfold doneT at h3 ⊢
      rw [List.map_cons, List.sum_cons, List.map_cons, List.sum_cons, h3]
      simp [same_str, hl]
      omega
    · rw [if_neg e] at ha
      have h3 := ih h2 ha
      have h4 : (m == n) = false := beq_false_of_ne e
      unfold doneT at h3 ⊢
      rw [List.map_cons, List.sum_cons, List.map_cons, List.sum_cons, h3]
      simp [same_str, h4]
      omega
theorem done_nonneg {half : Int} {L : Led} (h : LOk half L) {now : Int} (hn : now ≤ 1099511627776) (left : Lit → Bool) : 0 ≤ doneT half now L left := sum_nonneg fun x hx => by
  obtain ⟨p, hp, rfl⟩ := List.mem_map.1 hx
  split
  · omega
  · exact (val_bounds h.half.1 (h.ac p hp) hn).1
theorem most_add {x y : Int} (hx : 0 ≤ x) (hy : 0 ≤ y) : mostV (mostV x + y) = mostV (x + y) := by
  rw [most_nonneg hx, most_nonneg (x := x + y) (by omega), most_nonneg (by omega)]
  omega
/-! ### the part -/
def facQ (u t : Int) : Int := min ((u * 1000 + t - 1) / t) 1000
def facV (half : Int) (L : Led) (n : Nm) (now : Int) : Int :=
  if userE L n now = 0 then if totV half L now = 0 then 1000 else 1000 - facQ (usedV half L n now) (totV half L now) else 0
end Go.Proofs.Ytflgnlpippjhcaa
