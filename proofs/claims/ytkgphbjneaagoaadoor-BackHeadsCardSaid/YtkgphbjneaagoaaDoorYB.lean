/- Prof: the profile in memory; the comparer of find; New. | Prof: steps that are read; the search. | Prof: a profile's steps as they are read; find. | Prof: ok, span. | Prof: a step's set, as it is read. | Prof: within, During. | Prof: append of whole values; put. -/
import Derived.Test.YtkgphbjneaagoaaDoorFb
import Derived.Test.YtkgphbjneaagoaaDoorF2
import Derived.Test.YtkgphbjneaagoaaDoorMu
import Derived.Outline
import Derived.BigQuiet
import Derived.Deep.QuietTactic
set_option linter.unusedVariables false
namespace Go.Proofs.YtkgphbjneaagoaaDoor
open Go.RowKit Go.Sort

/-- A step's cells. -/
abbrev spL (s : Sp NS) : List Value := [.int .i64 s.at_, .int .u64 (wn s.free 0 : Nat), .int .u64 (wn s.free 1 : Nat), .int .u64 (wn s.free 2 : Nat), .int .u64 (wn s.free 3 : Nat)]
abbrev spA (s : Sp NS) : Array Value := #[.int .i64 s.at_, .int .u64 (wn s.free 0 : Nat), .int .u64 (wn s.free 1 : Nat), .int .u64 (wn s.free 2 : Nat), .int .u64 (wn s.free 3 : Nat)]
abbrev spV (s : Sp NS) : Value := .agg (spA s)
def spC (l : List (Sp NS)) : List Value := l.flatMap spL
theorem spC_append (a b : List (Sp NS)) : spC (a ++ b) = spC a ++ spC b := by simp [spC]
theorem spC_one (s : Sp NS) : spC [s] = spL s := by simp [spC]
theorem spC_len : ∀ l : List (Sp NS), (spC l).length = l.length * 5
  | [] => rfl
  | s :: r => by
    have := spC_len r
    show (spL s ++ spC r).length = _
    have h5 : (spL s).length = 5 := rfl
    have h6 : (s :: r).length = r.length + 1 := rfl
    rw [List.length_append, this, h5, h6]
    omega
theorem spC_get : ∀ (l : List (Sp NS)) (i j : Nat), i < l.length → j < 5 → (spC l)[i * 5 + j]? = (spL (stp emptyS l i))[j]?
  | s :: r, 0, j, _, hj => by
    show (spL s ++ spC r)[0 * 5 + j]? = _
    rw [List.getElem?_append_left (by show 0 * 5 + j < 5; omega), Nat.zero_mul, Nat.zero_add]
    rfl
  | s :: r, i + 1, j, hi, hj => by
    show (spL s ++ spC r)[(i + 1) * 5 + j]? = _
    rw [List.getElem?_append_right (by show 5 ≤ (i + 1) * 5 + j; omega)]
    show (spC r)[(i + 1) * 5 + j - 5]? = _
    rw [show (i + 1) * 5 + j - 5 = i * 5 + j by omega, spC_get r i j (by simpa using hi) hj]
    rfl
abbrev slP (A : Option Addr) (c : Nat) (l : List (Sp NS)) : Value := .slice A l.length c
abbrev rowP (A : Option Addr) (c : Nat) (l : List (Sp NS)) : Own := .row 113 5 (slP A c l) l.length (spC l)
abbrev pfA (nodes : NS) (A : Option Addr) (c : Nat) (l : List (Sp NS)) : Array Value := #[.int .u64 (wn nodes 0 : Nat), .int .u64 (wn nodes 1 : Nat), .int .u64 (wn nodes 2 : Nat), .int .u64 (wn nodes 3 : Nat), slP A c l]
abbrev blkP (g : Nat) (nodes : NS) (A : Option Addr) (c : Nat) (l : List (Sp NS)) : Own := .blk g 116 (pfA nodes A c l)
/-- A profile: its block, and its steps in a row. -/
def Own.pf (g : Nat) (nodes : NS) (A : Option Addr) (c : Nat) (l : List (Sp NS)) : Own where
  bl k := k = g ∨ (slP A c l).ownBlock = some k
  ok W := (blkP g nodes A c l).ok W ∧ (rowP A c l).ok W ∧ (slP A c l).ownBlock ≠ some g
  lt W h k hk := hk.elim (fun h1 => (blkP g nodes A c l).lt W h.1 k h1) (fun h1 => (rowP A c l).lt W h.2.1 k h1)
  keep W W' hk h := ⟨(blkP g nodes A c l).keep W W' (fun k h1 => hk k (.inl h1)) h.1, (rowP A c l).keep W W' (fun k h1 => hk k (.inr h1)) h.2.1, h.2.2⟩

set_option maxRecDepth 100000 in
set_option maxHeartbeats 4000000 in
theorem cmp_c (s : Sp NS) (t : Int) (w : World) (hs : 0 ≤ s.at_ ∧ s.at_ ≤ 2199023255552) (ht : 0 ≤ t ∧ t ≤ 2199023255552) :
    Calls Tryd.prog 69 #[spV s, .int .i64 t] w fun e w' => e = .returned (.int .i64 (s.at_ - t)) ∧ Below w.heap.size w w' := by
  obtain ⟨hs0, hs1⟩ := hs
  obtain ⟨ht0, ht1⟩ := ht
  have HS0 := Lib.hid ((Ms.nil w noB))
  go_enter Tryd.func69, Tryd.ntmps69
  go_wp2_with (refine wpList_alloc_b rfl (some 2) rfl 113 (spA s) (by kernel_rfl) ?_; intro g1 W1 hb hB hg; have HS1 := Lib.hid (HS0.out.new hb hB hg); clear hb hB hg HS0; obtain ⟨r1, r2, r3⟩ := HS1.out.rules 0 rfl)
  go_ret
  exact ⟨by congr 2, HS1.out.below⟩
set_option maxRecDepth 100000 in
set_option maxHeartbeats 4000000 in
theorem newP_no (nodes : NS) (now : Int) (w : World) (h : now < 0 ∨ 1099511627776 < now) (hb : -9223372036854775808 ≤ now ∧ now ≤ 9223372036854775807) :
    Calls Tryd.prog 42 #[nsV nodes, .int .i64 now] w fun e w' => e = .returned (.tuple #[.pointer none, .int .i64 1]) ∧ Below w.heap.size w w' := by
  have HS0 := Lib.hid ((Ms.nil w noB))
  by_cases h0 : now < 0
  · go_enter Tryd.func42, Tryd.ntmps42
    go_wp2_with (refine wpList_alloc_b rfl (some 2) rfl 24 (nsA nodes) (by kernel_rfl) ?_; intro g1 W1 hb hB hg; have HS1 := Lib.hid (HS0.out.new hb hB hg); clear hb hB hg HS0)
    go_ret2
    exact ⟨rfl, HS1.out.below⟩
  · have h1 : 1099511627776 < now := by omega
    go_enter Tryd.func42, Tryd.ntmps42
    go_wp2_with (refine wpList_alloc_b rfl (some 2) rfl 24 (nsA nodes) (by kernel_rfl) ?_; intro g1 W1 hb hB hg; have HS1 := Lib.hid (HS0.out.new hb hB hg); clear hb hB hg HS0)
    go_ret2
    exact ⟨rfl, HS1.out.below⟩
theorem Ms.pfOf {w W : World} {ex : Nat → Prop} {l : List Own} {g : Nat} {nodes : NS} {A : Option Addr} {c : Nat} {s : List (Sp NS)} (h : Ms w ex l W) (i j : Nat) (hi : l[i]? = some (blkP g nodes A c s)) (hj : l[j]? = some (rowP A c s)) (hij : i ≠ j) : Ms w ex [.pf g nodes A c s] W := by
  have h2 := h.pick (fun k => if k = 0 then i else j) [blkP g nodes A c s, rowP A c s] (fun k o hk => by
    match k, hk with
    | 0, hk => simp at hk; subst hk; simpa using hi
    | 1, hk => simp at hk; subst hk; simpa using hj
    | k + 2, hk => simp at hk) (fun a b ha hb he => by
    simp only [List.length_cons, List.length_nil] at ha hb
    by_cases ha0 : a = 0 <;> by_cases hb0 : b = 0 <;> simp [ha0, hb0] at he <;> omega)
  exact h2.join (fun h1 h3 => ⟨h1, h3, fun e => h2.apart 0 1 _ _ rfl rfl (by decide) g rfl e⟩) (fun k hk => hk)
/-- What makes a profile. -/
def NewP (w : World) (nodes : NS) (l : List (Sp NS)) (g : Nat) (W : World) : Prop := ∃ A c, Ms w noB [.pf g nodes A c l] W
set_option maxRecDepth 100000 in
set_option maxHeartbeats 4000000 in
theorem newP_yes (nodes : NS) (now : Int) (w : World) (h0 : 0 ≤ now) (h1 : now ≤ 1099511627776) :
    Calls Tryd.prog 42 #[nsV nodes, .int .i64 now] w fun e w' => ∃ g, e = .returned (.tuple #[.pointer (some ⟨g, 0, none⟩), .int .i64 0]) ∧ NewP w nodes [⟨now, nodes⟩] g w' := by
  have HS0 := Lib.hid ((Ms.nil w noB))
  have h0' : ¬ now < 0 := by omega
  have h1' : ¬ 1099511627776 < now := by omega
  go_enter Tryd.func42, Tryd.ntmps42
  go_wp2_with (first
    | (refine wpList_alloc_b rfl (some 2) rfl 24 (nsA nodes) (by kernel_rfl) ?_; intro g1 W1 hb hB hg; have HS1 := Lib.hid (HS0.out.new hb hB hg); clear hb hB hg HS0)
    | (refine wpList_load_at rfl 24 _ rfl (HS1.out.at_ 0 rfl) 4 (nsV nodes) rfl _ Tryd.underlying24 rfl (by kernel_rfl) (Nat.le_of_ble_eq_true rfl) rfl ?_)
    | (refine wpList_build_b rfl (some 16) rfl 113 1 (spA ⟨now, nodes⟩) (by kernel_rfl) ?_; intro g2 W2 hb hB hg; have HS2 := Lib.hid (HS1.out.newRow (n := 1) (size := 5) hb hB hg rfl (by decide)); clear hb hB hg HS1)
    | (refine wpList_alloc_b rfl (some 18) rfl 116 (pfA nodes (some ⟨g2, 0, none⟩) 1 [⟨now, nodes⟩]) (by kernel_rfl) ?_; intro g3 W3 hb hB hg; have HS3 := Lib.hid (HS2.out.new hb hB hg); clear hb hB hg HS2))
  go_ret2
  exact ⟨g3, rfl, some ⟨g2, 0, none⟩, 1, HS3.out.pfOf 2 1 rfl rfl (by decide)⟩
end Go.Proofs.YtkgphbjneaagoaaDoor

set_option linter.unusedVariables false
namespace Go.Proofs.YtkgphbjneaagoaaDoor
open Go.RowKit Go.Sort

/-- The slice value '.slice A n c' reads as these steps. -/
def ReadsP (w : World) (A : Option Addr) (n : Nat) (l : List (Sp NS)) : Prop :=
  l.length = n ∧ n ≤ 9223372036854775807 ∧ (0 < n → ∃ ad, A = some ad ∧ ∀ i, i < n → ∀ j v, (spL (stp emptyS l i))[j]? = some v → w.cell? ((ad.add (i * 5)).add j) = some v)
theorem ReadsP.below {w w' : World} {A : Option Addr} {n : Nat} {xs : List (Sp NS)} (h : ReadsP w A n xs) (hb : Below w.heap.size w w') : ReadsP w' A n xs :=
  ⟨h.1, h.2.1, fun hn => by
    obtain ⟨ad, e, hc⟩ := h.2.2 hn
    exact ⟨ad, e, fun i hi j v hv => (hb.cell (block_lt_of_cell (hc i hi j v hv))).trans (hc i hi j v hv)⟩⟩
theorem stp_bounds {l : List (Sp NS)} {t0 E : Int} (hP : Prf t0 E l) {i : Nat} (hi : i < l.length) : t0 ≤ (stp emptyS l i).at_ ∧ (stp emptyS l i).at_ < E := by
  refine ⟨?_, hP.lt _ (stp_mem _ hi)⟩
  obtain ⟨x, r, rfl, e2⟩ := hP.first
  rcases Nat.eq_zero_or_pos i with rfl | h3
  · show t0 ≤ x.at_; omega
  · have h4 := stp_lt emptyS (l := x :: r) hP.can h3 hi
    have h5 : (stp emptyS (x :: r) 0).at_ = x.at_ := rfl
    omega
/-- What the search answers: how many steps are ahead of t, and whether one is at it. -/
def FoundP (l : List (Sp NS)) (n : Nat) (t : Int) (e : Ending) : Prop := ∃ a : Nat, a ≤ n ∧ e = .returned (.tuple #[.int .i64 (a : Nat), .bool (decide (a < n ∧ (stp emptyS l a).at_ = t))]) ∧ (∀ k, k < a → (stp emptyS l k).at_ < t) ∧ (∀ k, a ≤ k → k < n → t ≤ (stp emptyS l k).at_)

set_option maxRecDepth 100000 in
set_option maxHeartbeats 8000000 in
theorem bsf_c (A : Option Addr) (n c : Nat) (l : List (Sp NS)) (t t0 : Int) (w : World) (hR : ReadsP w A n l) (hn : n ≤ 1048576) (hP : Prf t0 2199023255552 l) (h0 : 0 ≤ t0) (ht : t0 ≤ t ∧ t ≤ 2199023255552) :
    Calls Tryd.prog 68 #[.slice A n c, .int .i64 t, .func (.func 69) #[] #[]] w fun e w' =>
      FoundP l n t e ∧ Below w.heap.size w w' := by
  have HR := Lib.hid hR
  have HP := Lib.hid hP
  have HT := Lib.hid ht
  have HN := Lib.hid hn
  have H0 := Lib.hid h0
  have hnI : (n : Int) ≤ 1048576 := by omega
  clear hR hP ht hn h0
  go_enter Tryd.func68, Tryd.ntmps68
  go_wp2_with fail
  go_loopw [9, 10] (fun i j wr => ∃ a b : Nat, a ≤ b ∧ b ≤ n ∧ i = .int .i64 (a : Nat) ∧ j = .int .i64 (b : Nat) ∧ Hid (∀ k, k < a → (stp emptyS l k).at_ < t) ∧ Hid (∀ k, b ≤ k → k < n → t ≤ (stp emptyS l k).at_) ∧ Hid (Ms w noB [] wr)) (fun i j _ => (intOf j).toNat - (intOf i).toNat)
  case atStart => exact ⟨0, n, by omega, by omega, rfl, rfl, Lib.hid (fun k hk => by omega), Lib.hid (fun k h1 h2 => by omega), Lib.hid (Ms.nil _ _)⟩
  case round =>
    obtain ⟨a, b, hab, hbn, rfl, rfl, HA, HB, HW⟩ := hrel
    by_cases hlt : a < b
    · have hltI : (a : Int) < (b : Int) := by omega
      have hmn : (a + b) / 2 < n := by omega
      have hbI : (b : Int) ≤ 1048576 := by omega
      obtain ⟨ad, hAe, hcx⟩ := (HR.out.below HW.out.below).2.2 (by omega)
      have HC := Lib.hid (hcx ((a + b) / 2) hmn)
      clear hcx
      subst hAe
      obtain ⟨s, hs⟩ : ∃ s, s = stp emptyS l ((a + b) / 2) := ⟨_, rfl⟩
      rw [← hs] at HC
      have HS := Lib.hid hs
      have hsb : 0 ≤ s.at_ ∧ s.at_ ≤ 2199023255552 := by
        have h1 := stp_bounds HP.out (i := (a + b) / 2) (by rw [HR.out.1]; exact hmn)
        rw [← hs] at h1
        have := H0.out
        omega
      clear hs
      go_wp2_with (refine wpList_load_ad (by kernel_rfl) 113 _ rfl (ad.add ((a + b) / 2 * 5)) (spL s) HC.out rfl _ (spV s) rfl Tryd.underlying113 rfl (by kernel_rfl) ?_)
      refine (cmp_c s t _ hsb (by have := HT.out; have := H0.out; omega)).mono ?_
      rintro e W1 ⟨rfl, hb⟩
      have HW1 := Lib.hid (HW.out.after hb)
      clear hb HW HC
      by_cases hc : s.at_ < t
      · have hcI : s.at_ - t < 0 := by omega
        go_wp2_with fail
        refine ⟨⟨(a + b) / 2 + 1, b, by omega, hbn, by go_num, rfl, Lib.hid (fun k hk => ?_), HB, HW1⟩, by simp [intOf]; omega⟩
        rcases Nat.lt_or_ge k ((a + b) / 2) with h5 | h5
        · have h6 := stp_lt emptyS HP.out.can h5 (by rw [HR.out.1]; exact hmn)
          rw [← HS.out] at h6
          omega
        · have e : k = (a + b) / 2 := by omega
          rw [e, ← HS.out]; exact hc
      · have hcI : ¬ s.at_ - t < 0 := by omega
        go_wp2_with fail
        refine ⟨⟨a, (a + b) / 2, by omega, by omega, rfl, by go_num, HA, Lib.hid (fun k h3 h4 => ?_), HW1⟩, by simp [intOf]; omega⟩
        rcases Nat.lt_or_ge ((a + b) / 2) k with h5 | h5
        · have h6 := stp_lt emptyS HP.out.can h5 (by rw [HR.out.1]; exact h4)
          rw [← HS.out] at h6
          omega
        · have e : k = (a + b) / 2 := by omega
          rw [e, ← HS.out]; omega
    · have hltI : ¬ (a : Int) < (b : Int) := by omega
      have hab2 : a = b := by omega
      subst hab2
      by_cases han : a < n
      · have hanI : (a : Int) < (n : Int) := by omega
        obtain ⟨ad, hAe, hcx⟩ := (HR.out.below HW.out.below).2.2 (by omega)
        have HC := Lib.hid (hcx a han)
        clear hcx
        subst hAe
        obtain ⟨s, hs⟩ : ∃ s, s = stp emptyS l a := ⟨_, rfl⟩
        rw [← hs] at HC
        have HS := Lib.hid hs
        have hsb : 0 ≤ s.at_ ∧ s.at_ ≤ 2199023255552 := by
          have h1 := stp_bounds HP.out (i := a) (by rw [HR.out.1]; exact han)
          rw [← hs] at h1
          have := H0.out
          omega
        clear hs
        go_wp2_with (refine wpList_load_ad (by kernel_rfl) 113 _ rfl (ad.add (a * 5)) (spL s) HC.out rfl _ (spV s) rfl Tryd.underlying113 rfl (by kernel_rfl) ?_)
        have HE1 := Lib.hid (show s.at_ = t → FoundP l n t (.returned (.tuple #[.int .i64 (a : Nat), .bool true])) from fun h => ⟨a, hbn, by rw [decide_eq_true (show a < n ∧ (stp emptyS l a).at_ = t from ⟨han, by rw [← HS.out]; exact h⟩)], HA.out, HB.out⟩)
        have HE0 := Lib.hid (show s.at_ ≠ t → FoundP l n t (.returned (.tuple #[.int .i64 (a : Nat), .bool false])) from fun h => ⟨a, hbn, by rw [decide_eq_false (show ¬ (a < n ∧ (stp emptyS l a).at_ = t) from fun h9 => h (by rw [HS.out]; exact h9.2))], HA.out, HB.out⟩)
        refine (cmp_c s t _ hsb (by have := HT.out; have := H0.out; omega)).mono ?_
        rintro e W1 ⟨rfl, hb⟩
        have HW1 := Lib.hid (HW.out.after hb)
        clear hb HW HC HA HB
        by_cases hc : s.at_ = t
        · have hcI : s.at_ - t = 0 := by omega
          have HEE := Lib.hid (HE1.out hc)
          go_wp2_with fail
          go_ret2
          exact ⟨HEE.out, HW1.out.below⟩
        · have hcI : ¬ s.at_ - t = 0 := by omega
          have HEE := Lib.hid (show FoundP l n t (.returned (.tuple #[.int .i64 (a : Nat), .bool (s.at_ - t == 0)])) by rw [show (s.at_ - t == 0) = false from beq_false_of_ne hcI]; exact HE0.out hc)
          go_wp2_with fail
          go_ret2
          exact ⟨HEE.out, HW1.out.below⟩
      · have hanI : ¬ (a : Int) < (n : Int) := by omega
        have hE : decide (a < n ∧ (stp emptyS l a).at_ = t) = false := decide_eq_false (fun h => han h.1)
        have HE := Lib.hid (show FoundP l n t (.returned (.tuple #[.int .i64 (a : Nat), .bool false])) from ⟨a, hbn, by rw [hE], HA.out, HB.out⟩)
        clear hE HA HB
        go_wp2_with fail
        go_ret2
        exact ⟨HE.out, HW.out.below⟩
end Go.Proofs.YtkgphbjneaagoaaDoor

set_option linter.unusedVariables false
namespace Go.Proofs.YtkgphbjneaagoaaDoor
open Go.RowKit Go.Sort

/-- The row of a profile's steps, as it is read. -/
theorem rowP_read {w : World} {A : Option Addr} {c : Nat} {l : List (Sp NS)} (h : (rowP A c l).ok w) (hl : l.length ≤ 1048576) : ReadsP w A l.length l := by
  have h' : w.ownsRow 0 113 5 (slP A c l) l.length (spC l) := h
  refine ⟨rfl, by omega, fun hn => ?_⟩
  rcases h'.2 with ⟨_, e⟩ | ⟨g, cap, cur, e, _, hg, hcap, hmax, hcs, ht⟩
  · omega
  · injection e with e1 _ _
    refine ⟨⟨g, 0, none⟩, e1, fun i hi j v hj => ?_⟩
    have hj5 : j < 5 := by
      by_cases h3 : j < 5
      · exact h3
      · rw [List.getElem?_eq_none (by show 5 ≤ j; omega)] at hj; cases hj
    rw [add_plain, add_at]
    have hq := h'.cells (g := g) (by rw [e1]; rfl) (i * 5 + j) v (by rw [spC_get l i j hi hj5]; exact hj)
    rw [add_plain] at hq
    exact hq

/-- A profile, as its methods find it. -/
structure PfOk (w : World) (g : Nat) (nodes : NS) (A : Option Addr) (c : Nat) (l : List (Sp NS)) (t0 : Int) : Prop where
  ok : (Own.pf g nodes A c l).ok w
  len : l.length ≤ 1048576
  prf : Prf t0 2199023255552 l
  low : 0 ≤ t0
theorem PfOk.blk {w : World} {g : Nat} {nodes : NS} {A : Option Addr} {c : Nat} {l : List (Sp NS)} {t0 : Int} (h : PfOk w g nodes A c l t0) : Blk w g 116 (pfA nodes A c l) := h.ok.1
theorem PfOk.read {w : World} {g : Nat} {nodes : NS} {A : Option Addr} {c : Nat} {l : List (Sp NS)} {t0 : Int} (h : PfOk w g nodes A c l t0) : ReadsP w A l.length l := rowP_read h.ok.2.1 h.len
theorem FoundP.at_ {l : List (Sp NS)} {t0 t : Int} (hP : Prf t0 2199023255552 l) (ht : t0 ≤ t) {a : Nat} (ha : a ≤ l.length) (h1 : ∀ k, k < a → (stp emptyS l k).at_ < t) (h2 : ∀ k, a ≤ k → k < l.length → t ≤ (stp emptyS l k).at_) :
    if a < l.length ∧ (stp emptyS l a).at_ = t then At emptyS l t a else 1 ≤ a ∧ At emptyS l t (a - 1) := by
  split
  · rename_i h
    exact ⟨h.1, by omega, fun h9 => by
      have := stp_lt emptyS hP.can (show a < a + 1 by omega) h9
      omega⟩
  · rename_i h
    have h0 : 1 ≤ a := by
      rcases Nat.eq_zero_or_pos a with rfl | h3
      · exfalso
        obtain ⟨x, r, rfl, e2⟩ := hP.first
        have h4 : t ≤ x.at_ := h2 0 (Nat.le_refl _) (by simp)
        exact h ⟨by simp, by show x.at_ = t; omega⟩
      · exact h3
    refine ⟨h0, by omega, by have := h1 (a - 1) (by omega); omega, fun h9 => ?_⟩
    have e : a - 1 + 1 = a := by omega
    rw [e] at h9 ⊢
    have h5 := h2 a (Nat.le_refl _) h9
    have h6 : (stp emptyS l a).at_ ≠ t := fun h7 => h ⟨h9, h7⟩
    omega
/-- The number of the step that holds at t. -/
def AtE (l : List (Sp NS)) (t : Int) (e : Ending) : Prop := ∃ i : Nat, At emptyS l t i ∧ e = .returned (.int .i64 (i : Nat))
set_option maxRecDepth 100000 in
set_option maxHeartbeats 4000000 in
theorem find_c (g : Nat) (nodes : NS) (A : Option Addr) (c : Nat) (l : List (Sp NS)) (t0 t : Int) (w : World) (h : PfOk w g nodes A c l t0) (ht : t0 ≤ t ∧ t ≤ 2199023255552) :
    Calls Tryd.prog 59 #[.pointer (some ⟨g, 0, none⟩), .int .i64 t] w fun e w' => AtE l t e ∧ Below w.heap.size w w' := by
  have HH := Lib.hid h
  have HT := Lib.hid ht
  clear h ht
  go_enter Tryd.func59, Tryd.ntmps59
  obtain ⟨r1, r2, r3⟩ := HH.out.blk.rules
  go_wp2_with fail
  refine (bsf_c A l.length c l t t0 _ HH.out.read HH.out.len HH.out.prf HH.out.low HT.out).mono ?_
  rintro e W1 ⟨⟨a, ha, rfl, h1, h2⟩, hb⟩
  have HB := Lib.hid hb
  have HF := FoundP.at_ HH.out.prf HT.out.1 ha h1 h2
  have haI : (a : Int) ≤ 1048576 := by have := HH.out.len; omega
  clear hb h1 h2
  by_cases hc : a < l.length ∧ (stp emptyS l a).at_ = t
  · rw [if_pos hc] at HF
    rw [decide_eq_true hc]
    have HX := Lib.hid (show AtE l t (.returned (.int .i64 (a : Nat))) from ⟨a, HF, rfl⟩)
    clear HF hc
    go_wp2_with fail
    go_ret
    exact ⟨HX.out, HB.out⟩
  · rw [if_neg hc] at HF
    rw [decide_eq_false hc]
    have HX := Lib.hid (show AtE l t (.returned (.int .i64 ((a : Int) - 1))) from ⟨a - 1, HF.2, by congr 2; have := HF.1; omega⟩)
    clear HF hc
    go_wp2_with fail
    go_ret
    exact ⟨HX.out, HB.out⟩
end Go.Proofs.YtkgphbjneaagoaaDoor

set_option linter.unusedVariables false
namespace Go.Proofs.YtkgphbjneaagoaaDoor
open Go.RowKit Go.Sort

theorem PfOk.pos {w : World} {g : Nat} {nodes : NS} {A : Option Addr} {c : Nat} {l : List (Sp NS)} {t0 : Int} (h : PfOk w g nodes A c l t0) : 0 < l.length := by
  obtain ⟨x, r, rfl, _⟩ := h.prf.first
  simp
theorem PfOk.first {w : World} {g : Nat} {nodes : NS} {A : Option Addr} {c : Nat} {l : List (Sp NS)} {t0 : Int} (h : PfOk w g nodes A c l t0) : (stp emptyS l 0).at_ = t0 := by
  obtain ⟨x, r, rfl, e⟩ := h.prf.first
  exact e
theorem PfOk.after {w w' : World} {g : Nat} {nodes : NS} {A : Option Addr} {c : Nat} {l : List (Sp NS)} {t0 : Int} (h : PfOk w g nodes A c l t0) (hb : Below w.heap.size w w') : PfOk w' g nodes A c l t0 :=
  ⟨(Own.pf g nodes A c l).keep w w' (fun k hk => hb.block k ((Own.pf g nodes A c l).lt w h.ok k hk)) h.ok, h.len, h.prf, h.low⟩
set_option maxRecDepth 100000 in
set_option maxHeartbeats 4000000 in
theorem ok_c (g : Nat) (nodes : NS) (A : Option Addr) (c : Nat) (l : List (Sp NS)) (t0 : Int) (w : World) (h : PfOk w g nodes A c l t0) :
    Calls Tryd.prog 58 #[.pointer (some ⟨g, 0, none⟩)] w fun e w' => e = .returned (.bool true) ∧ Below w.heap.size w w' := by
  have HH := Lib.hid h
  have hp : 0 < l.length := h.pos
  have hpI : (0 : Int) < (l.length : Int) := by omega
  have HS0 := Lib.hid ((Ms.nil w noB))
  clear h
  go_enter Tryd.func58, Tryd.ntmps58
  obtain ⟨r1, r2, r3⟩ := HH.out.blk.rules
  go_wp2_with fail
  go_ret
  exact ⟨rfl, Below.refl _ _⟩
/-- May a span be? -/
def spanE (t0 lo hi : Int) : Int := if lo < t0 ∨ hi ≤ lo ∨ 2199023255552 < hi then 1 else 0
set_option maxRecDepth 100000 in
set_option maxHeartbeats 4000000 in
theorem span_pc (g : Nat) (nodes : NS) (A : Option Addr) (c : Nat) (l : List (Sp NS)) (t0 lo hi : Int) (w : World) (h : PfOk w g nodes A c l t0) :
    Calls Tryd.prog 65 #[.pointer (some ⟨g, 0, none⟩), .int .i64 lo, .int .i64 hi] w fun e w' => e = .returned (.int .i64 (spanE t0 lo hi)) ∧ Below w.heap.size w w' := by
  have HH := Lib.hid h
  have hp : 0 < l.length := h.pos
  have hpI : (0 : Int) < (l.length : Int) := by omega
  have hlI : (l.length : Int) ≤ 1048576 := by have := h.len; omega
  obtain ⟨ad, hAe, hcx⟩ := h.read.2.2 hp
  have hc0 := hcx 0 hp 0 (.int .i64 (stp emptyS l 0).at_) rfl
  rw [h.first] at hc0
  have HC := Lib.hid hc0
  clear hcx hc0 h
  subst hAe
  go_enter Tryd.func65, Tryd.ntmps65
  go_wp2_with fail
  refine (ok_c g nodes (some ad) c l t0 _ HH.out).mono ?_
  rintro e W1 ⟨rfl, hb⟩
  have HW := Lib.hid hb
  obtain ⟨r1, r2, r3⟩ := (HH.out.after hb).blk.rules
  have hcell : W1.cell? ((ad.add (0 * 5)).add 0) = some (.int .i64 t0) := (hb.cell (block_lt_of_cell HC.out)).trans HC.out
  clear hb
  have hcell0 : W1.cell? ad = some (.int .i64 t0) := by
    have e : (ad.add (0 * 5)).add 0 = ad := by cases ad; simp [Addr.add]
    rw [← e]; exact hcell
  by_cases h1 : lo < t0
  · have HE := Lib.hid (show spanE t0 lo hi = 1 by unfold spanE; rw [if_pos (.inl h1)])
    go_wp2_with fail
    go_ret
    exact ⟨by rw [HE.out]; rfl, HW.out⟩
  · have h1I : t0 ≤ lo := by omega
    by_cases h2 : hi ≤ lo
    · have HE := Lib.hid (show spanE t0 lo hi = 1 by unfold spanE; rw [if_pos (.inr (.inl h2))])
      go_wp2_with fail
      go_ret
      exact ⟨by rw [HE.out]; rfl, HW.out⟩
    · have h2I : lo < hi := by omega
      by_cases h3 : 2199023255552 < hi
      · have HE := Lib.hid (show spanE t0 lo hi = 1 by unfold spanE; rw [if_pos (.inr (.inr h3))])
        go_wp2_with fail
        go_ret
        exact ⟨by rw [HE.out]; rfl, HW.out⟩
      · have HE := Lib.hid (show spanE t0 lo hi = 0 by unfold spanE; rw [if_neg (by omega)])
        have h3I : hi ≤ 2199023255552 := by omega
        go_wp2_with fail
        go_ret
        exact ⟨by rw [HE.out]; rfl, HW.out⟩
end Go.Proofs.YtkgphbjneaagoaaDoor

set_option linter.unusedVariables false
namespace Go.Proofs.YtkgphbjneaagoaaDoor
open Go.RowKit Go.Sort

theorem PfOk.addr {w : World} {g : Nat} {nodes : NS} {A : Option Addr} {c : Nat} {l : List (Sp NS)} {t0 : Int} (h : PfOk w g nodes A c l t0) (ad : Addr) (hA : A = some ad) (hp : 0 < l.length) : ad.spot = none := by
  obtain ⟨b, cap, e, _⟩ := World.ownsRow.form (h.ok.2.1 : w.ownsRow 0 113 5 (slP A c l) l.length (spC l)) hp
  injection e with e1
  rw [hA] at e1
  injection e1 with e1
  rw [e1]
theorem find_i (g : Nat) (nodes : NS) (A : Option Addr) (c : Nat) (l : List (Sp NS)) (t0 t : Int) (i : Nat) (w : World) (h : PfOk w g nodes A c l t0) (ht : t0 ≤ t ∧ t ≤ 2199023255552) (hi : At emptyS l t i) :
    Calls Tryd.prog 59 #[.pointer (some ⟨g, 0, none⟩), .int .i64 t] w fun e w' => e = .returned (.int .i64 (i : Nat)) ∧ Below w.heap.size w w' :=
  (find_c g nodes A c l t0 t w h ht).mono fun _ _ ⟨⟨j, hj, he⟩, hb⟩ => ⟨by rw [he, hj.uniq h.prf.can hi], hb⟩
abbrev nsL (s : NS) : List Value := [.int .u64 (wn s 0 : Nat), .int .u64 (wn s 1 : Nat), .int .u64 (wn s 2 : Nat), .int .u64 (wn s 3 : Nat)]
theorem ReadsP.at_ {w : World} {ad : Addr} {n : Nat} {l : List (Sp NS)} (h : ReadsP w (some ad) n l) {i : Nat} (hi : i < n) : ∀ j v, (spL (stp emptyS l i))[j]? = some v → w.cell? ((ad.add (i * 5)).add j) = some v := by
  obtain ⟨ad', e, hc⟩ := h.2.2 (by omega)
  cases e
  exact hc i hi
theorem add_add (a : Addr) (h : a.spot = none) (i j : Nat) : (a.add i).add j = a.add (i + j) := by
  cases a; simp only at h; subst h; rw [add_at, add_at, add_at, Nat.add_assoc]
theorem ReadsP.free {w : World} {ad : Addr} {n : Nat} {l : List (Sp NS)} (h : ReadsP w (some ad) n l) (hp : ad.spot = none) {i : Nat} (hi : i < n) : ∀ j v, (nsL (stp emptyS l i).free)[j]? = some v → w.cell? (((ad.add (i * 5)).add 1).add j) = some v := fun j v hj => by
  have h1 := h.at_ hi (j + 1) v hj
  rw [← h1]
  obtain ⟨g, k, e⟩ : ∃ g k, ad = ⟨g, k, none⟩ := by cases ad; simp only at hp; subst hp; exact ⟨_, _, rfl⟩
  rw [e, add_at, add_at, add_at, add_at]
  congr 2
  omega
end Go.Proofs.YtkgphbjneaagoaaDoor

set_option linter.unusedVariables false
namespace Go.Proofs.YtkgphbjneaagoaaDoor
open Go.RowKit Go.Sort

theorem PfOk.cap {w : World} {g : Nat} {nodes : NS} {A : Option Addr} {c : Nat} {l : List (Sp NS)} {t0 : Int} (h : PfOk w g nodes A c l t0) : l.length ≤ c ∧ c ≤ 9223372036854775807 := by
  have h' : w.ownsRow 0 113 5 (slP A c l) l.length (spC l) := h.ok.2.1
  have hp := h.pos
  rcases h'.2 with ⟨_, e⟩ | ⟨g, cap, cur, e, _, hg, hcap, hmax, hcs, ht⟩
  · omega
  · injection e with _ _ e3
    simp only [maxLen] at hmax
    omega
set_option maxRecDepth 100000 in
set_option maxHeartbeats 4000000 in
theorem within_c (g : Nat) (nodes : NS) (ad : Addr) (c : Nat) (l : List (Sp NS)) (t0 lo hi : Int) (i j : Nat) (w : World) (h : PfOk w g nodes (some ad) c l t0) (h0 : t0 ≤ lo) (h1 : lo < hi) (h2 : hi ≤ 2199023255552) (hi_ : At emptyS l lo i) (hj : At emptyS l (hi - 1) j) :
    Calls Tryd.prog 66 #[.pointer (some ⟨g, 0, none⟩), .int .i64 lo, .int .i64 hi] w fun e w' => e = .returned (.slice (some (ad.add (i * 5))) (j + 1 - i) (c - i)) ∧ Below w.heap.size w w' := by
  have HH := Lib.hid h
  have hcap := h.cap
  have hlI : (l.length : Int) ≤ 1048576 := by have := h.len; omega
  have hij := hi_.mono h.prf.can hj (by omega)
  have hjl := hj.lt
  have HS := Lib.hid (show ∀ w0, PfOk w0 g nodes (some ad) c l t0 → Calls Tryd.prog 59 #[.pointer (some ⟨g, 0, none⟩), .int .i64 lo] w0 fun e w' => e = .returned (.int .i64 (i : Nat)) ∧ Below w0.heap.size w0 w' from fun w0 h0' => find_i g nodes (some ad) c l t0 lo i w0 h0' ⟨h0, by omega⟩ hi_)
  have HT := Lib.hid (show ∀ w0, PfOk w0 g nodes (some ad) c l t0 → Calls Tryd.prog 59 #[.pointer (some ⟨g, 0, none⟩), .int .i64 (hi - 1)] w0 fun e w' => e = .returned (.int .i64 (j : Nat)) ∧ Below w0.heap.size w0 w' from fun w0 h0' => find_i g nodes (some ad) c l t0 (hi - 1) j w0 h0' ⟨by omega, by omega⟩ hj)
  have hww : IntKind.i64.wrap (hi - 1) = hi - 1 := by rw [IntKind.wrap_i64]; have := h.low; omega
  have hjw : IntKind.i64.wrap ((j : Int) + 1) = (j : Int) + 1 := by rw [IntKind.wrap_i64]; omega
  have hijI : (i : Int) ≤ (j : Int) := by omega
  have hjlI : (j : Int) < (l.length : Int) := by omega
  have hlcI : (l.length : Int) ≤ (c : Int) := by omega
  have hcI : (c : Int) ≤ 9223372036854775807 := by omega
  clear h h0 h1 h2 hi_ hj hlI hcap
  go_enter Tryd.func66, Tryd.ntmps66
  go_wp2_with fail
  refine region_bt 13 (fun W => PfOk W g nodes (some ad) c l t0 ∧ Below w.heap.size w W) (by kernel_rfl) (by kernel_rfl) ⟨HH.out, Below.refl _ _⟩ ?_
  rintro W4 ⟨hS, hB⟩
  have q0 := cells_on hS.blk.cell hS.blk.lt
  have HF := Lib.hid (fun d os => HS.out _ (hS.after (below_regrown W4 d os)))
  have HG := Lib.hid (fun d os => HT.out _ (hS.after (below_regrown W4 d os)))
  have HB := Lib.hid hB
  clear hS hB
  simp only [List.take_succ_cons, List.take_zero, List.drop_succ_cons, List.drop_zero]
  repeat (first
    | go_big_quiet_step (first | with_reducible exact Calls.regrown_of (HF.out _ _) | with_reducible exact Calls.regrown_of (HG.out _ _)) | quiet_step (first | with_reducible exact Calls.regrown_of (HF.out _ _) | with_reducible exact Calls.regrown_of (HG.out _ _)))
  refine wpQuiet_nil ?_
  intro W5 hb
  have HB2 := Lib.hid (below_then HB.out HB.out.size hb)
  clear hb HB q0 HF HG
  go_wp2_with fail
  go_ret
  exact ⟨rfl, HB2.out⟩
abbrev z4P : Array Value := #[.int .u64 0, .int .u64 0, .int .u64 0, .int .u64 0]
abbrev z5P : Array Value := #[.int .i64 0, .int .u64 0, .int .u64 0, .int .u64 0, .int .u64 0]
theorem stepCells {w : World} {g : Nat} {nodes : NS} {ad : Addr} {c : Nat} {l : List (Sp NS)} {t0 : Int} (h : PfOk w g nodes (some ad) c l t0) {i k : Nat} (hk : i + k < l.length) : ∀ j v, (spL (stp emptyS l (i + k)))[j]? = some v → w.cell? (((ad.add (i * 5)).add (k * 5)).add j) = some v := fun j v hj => by
  have h1 := h.read.at_ hk j v hj
  have hp := h.addr ad rfl (by omega)
  obtain ⟨b, o, e⟩ : ∃ b o, ad = ⟨b, o, none⟩ := by cases ad; simp only at hp; subst hp; exact ⟨_, _, rfl⟩
  rw [← h1, e, add_at, add_at, add_at, add_at, add_at]
  congr 2
  omega
set_option maxRecDepth 100000 in
set_option maxHeartbeats 4000000 in
theorem during_no (g : Nat) (nodes : NS) (A : Option Addr) (c : Nat) (l : List (Sp NS)) (t0 lo hi : Int) (w : World) (h : PfOk w g nodes A c l t0) (hE : spanE t0 lo hi = 1) :
    Calls Tryd.prog 54 #[.pointer (some ⟨g, 0, none⟩), .int .i64 lo, .int .i64 hi] w fun e w' => e = .returned (.tuple #[nsV emptyS, .int .i64 1]) ∧ Below w.heap.size w w' := by
  have HH := Lib.hid h
  have HE := Lib.hid hE
  clear h hE
  have HQ := Lib.hid (show nsV emptyS = .agg #[.int .u64 0, .int .u64 0, .int .u64 0, .int .u64 0] by rfl)
  go_enter Tryd.func54, Tryd.ntmps54
  have HS0 := Lib.hid (Ms.nil w noB)
  go_wp2_with (refine wpList_alloc_b rfl (some 6) rfl 24 z4P (by kernel_rfl) ?_; intro g1 W0 hb hB hg; have HS1 := Lib.hid (HS0.out.new hb hB hg); clear hb hB hg HS0)
  refine (span_pc g nodes A c l t0 lo hi _ (HH.out.after HS1.out.below)).mono ?_
  rintro e W1 ⟨rfl, hb1⟩
  have HS2 := Lib.hid (HS1.out.after hb1)
  clear hb1 HS1
  rw [HE.out]
  go_wp2_with (refine wpList_store_at rfl 24 _ _ rfl (HS2.out.at_ 0 rfl) (.agg z4P) rfl rfl (by kernel_rfl) (Nat.le_of_ble_eq_true rfl) (by kernel_rfl) ?_; intro W6 hB hP; have HS6 := Lib.hid (HS2.out.put 0 rfl (new := z4P) hB hP); clear hB hP HS2)
  exact post_cell_tmp (x := .int .i64 1) rfl rfl rfl (HS6.out.at_ 0 rfl) Tryd.underlying24 rfl (by kernel_rfl) rfl ⟨by rw [HQ.out], HS6.out.below⟩
theorem spanE_zero {t0 lo hi : Int} (h : spanE t0 lo hi = 0) : t0 ≤ lo ∧ lo < hi ∧ hi ≤ 2199023255552 := by
  unfold spanE at h
  split at h
  · omega
  · omega
theorem spanE_cases (t0 lo hi : Int) : spanE t0 lo hi = 0 ∨ spanE t0 lo hi = 1 := by unfold spanE; split <;> simp
set_option maxRecDepth 100000 in
set_option maxHeartbeats 4000000 in
theorem during_yes (g : Nat) (nodes : NS) (A : Option Addr) (c : Nat) (l : List (Sp NS)) (t0 lo hi : Int) (w : World) (h : PfOk w g nodes A c l t0) (hE : spanE t0 lo hi = 0) :
    Calls Tryd.prog 54 #[.pointer (some ⟨g, 0, none⟩), .int .i64 lo, .int .i64 hi] w fun e w' => e = .returned (.tuple #[nsV (durS nodes l lo hi), .int .i64 0]) ∧ Below w.heap.size w w' := by
  have HH := Lib.hid h
  have HE := Lib.hid hE
  obtain ⟨h0, h1, h2⟩ := spanE_zero hE
  obtain ⟨i, hi_⟩ := At.ex (d := emptyS) (t := lo) h.prf h0
  obtain ⟨j, hj⟩ := At.ex (d := emptyS) (t := hi - 1) h.prf (by omega)
  obtain ⟨ad, hAe, -⟩ := h.read.2.2 h.pos
  subst hAe
  have HD := Lib.hid (durS_eq (nodes := nodes) h.prf h1 hi_ hj)
  have hij := hi_.mono h.prf.can hj (by omega)
  have hjl := hj.lt
  have HW := Lib.hid (fun w0 (h0' : PfOk w0 g nodes (some ad) c l t0) => within_c g nodes ad c l t0 lo hi i j w0 h0' h0 h1 h2 hi_ hj)
  obtain ⟨m, hm⟩ : ∃ m, m = j + 1 - i := ⟨_, rfl⟩
  rw [← hm] at HD HW
  have hlen := h.len
  have hmI : (m : Int) ≤ 1048576 := by omega
  have hil : ∀ k, k < m → i + k < l.length := fun k hk => by omega
  have HIL := Lib.hid hil
  clear h hE h0 h1 h2 hi_ hj hij hjl hm hlen hil
  go_enter Tryd.func54, Tryd.ntmps54
  have HS0 := Lib.hid (Ms.nil w noB)
  go_wp2_with (refine wpList_alloc_b rfl (some 6) rfl 24 z4P (by kernel_rfl) ?_; intro g1 W0 hb hB hg; have HS1 := Lib.hid (HS0.out.new hb hB hg); clear hb hB hg HS0)
  refine (span_pc g nodes (some ad) c l t0 lo hi _ (HH.out.after HS1.out.below)).mono ?_
  rintro e W1 ⟨rfl, hb1⟩
  have HS2 := Lib.hid (HS1.out.after hb1)
  have HB2 := Lib.hid ((HH.out.after HS2.out.below).blk)
  clear hb1 HS1
  rw [HE.out]
  go_wp2_with (first
    | (refine wpList_load_at rfl 24 _ rfl HB2.out 4 (nsV nodes) rfl _ Tryd.underlying24 rfl (by kernel_rfl) (Nat.le_of_ble_eq_true rfl) rfl ?_)
    | (refine wpList_alloc_b rfl (some 9) rfl 24 z4P (by kernel_rfl) ?_; intro g2 W3 hb hB hg; have HS3 := Lib.hid (HS2.out.new hb hB hg); clear hb hB hg HS2 HB2)
    | (refine wpList_store_at rfl 24 _ _ rfl (HS3.out.at_ 1 rfl) (nsV nodes) rfl rfl (by kernel_rfl) (Nat.le_of_ble_eq_true rfl) (by kernel_rfl) ?_; intro W6 hB hP; have HS6 := Lib.hid (HS3.out.put 1 rfl (new := nsA nodes) hB hP); clear hB hP HS3))
  refine (HW.out _ (HH.out.after HS6.out.below)).mono ?_
  rintro e W7 ⟨rfl, hb1⟩
  have HS7 := Lib.hid (HS6.out.after hb1)
  clear hb1 HS6
  go_wp2_with fail
  go_loopw [29] (fun k wr => ∃ kk : Nat, kk ≤ m ∧ k = .int .i64 (kk : Nat) ∧ Hid (Ms w noB [.blk g1 24 z4P, .blk g2 24 (nsA (andP nodes l i kk))] wr)) (fun k _ => m - (intOf k).toNat)
  case atStart => exact ⟨0, by omega, rfl, HS7⟩
  case round =>
    obtain ⟨k, hkm, rfl, HS8⟩ := hrel
    by_cases hlt : k < m
    · have hltI : (k : Int) < (m : Int) := by omega
      have HC := Lib.hid (stepCells (HH.out.after HS8.out.below) (HIL.out k hlt))
      obtain ⟨s, hs⟩ : ∃ s, s = stp emptyS l (i + k) := ⟨_, rfl⟩
      have HA := Lib.hid (show andP nodes l i (k + 1) = andP nodes l i k &&& s.free by rw [hs]; rfl)
      rw [← hs] at HC
      clear hs
      go_wp2_with (first
        | (refine wpList_load_ad (by kernel_rfl) 113 _ rfl ((ad.add (i * 5)).add (k * 5)) (spL s) HC.out rfl _ (spV s) rfl Tryd.underlying113 rfl (by kernel_rfl) ?_; clear HC)
        | (refine wpList_alloc_b rfl (some 11) rfl 113 z5P (by kernel_rfl) ?_; intro g3 W9 hb hB hg; have HS9 := Lib.hid (HS8.out.new hb hB hg); clear hb hB hg HS8)
        | (refine wpList_store_at rfl 113 _ _ rfl (HS9.out.at_ 2 rfl) (spV s) rfl rfl (by kernel_rfl) (Nat.le_of_ble_eq_true rfl) (by kernel_rfl) ?_; intro W10 hB hP; have HS10 := Lib.hid (HS9.out.put 2 rfl (new := spA s) hB hP); clear hB hP HS9)
        | (refine wpList_load_at rfl 24 _ rfl (HS10.out.at_ 1 rfl) 4 (nsV (andP nodes l i k)) rfl _ Tryd.underlying24 rfl (by kernel_rfl) (Nat.le_of_ble_eq_true rfl) rfl ?_)
        | (refine wpList_load_at rfl 24 _ rfl (HS10.out.at_ 2 rfl) 4 (nsV s.free) rfl _ Tryd.underlying24 rfl (by kernel_rfl) (Nat.le_of_ble_eq_true rfl) rfl ?_))
      refine (and_c _ _ _).mono ?_
      rintro e W11 ⟨rfl, hb1⟩
      have HS11 := Lib.hid (HS10.out.after hb1)
      clear hb1 HS10
      go_wp2_with (refine wpList_store_at rfl 24 _ _ rfl (HS11.out.at_ 1 rfl) (nsV (andP nodes l i k &&& s.free)) rfl rfl (by kernel_rfl) (Nat.le_of_ble_eq_true rfl) (by kernel_rfl) ?_; intro W12 hB hP; have HS12 := Lib.hid (HS11.out.put 1 rfl (new := nsA (andP nodes l i k &&& s.free)) hB hP); clear hB hP HS11)
      refine ⟨⟨k + 1, by omega, by go_num, ?_⟩, by simp [intOf]; omega⟩
      rw [HA.out]
      exact Lib.hid (Ms.cut (l := [.blk g1 24 z4P, .blk g2 24 _]) (k := [.blk g3 113 _]) HS12.out)
    · obtain rfl : k = m := by omega
      have HS9 := HS8.out
      rw [HD.out] at HS9
      have HS10 := Lib.hid HS9
      clear HS9 HS8
      go_wp2_with (first
        | (refine wpList_load_at rfl 24 _ rfl (HS10.out.at_ 1 rfl) 4 (nsV (durS nodes l lo hi)) rfl _ Tryd.underlying24 rfl (by kernel_rfl) (Nat.le_of_ble_eq_true rfl) rfl ?_)
        | (refine wpList_store_at rfl 24 _ _ rfl (HS10.out.at_ 0 rfl) (nsV (durS nodes l lo hi)) rfl rfl (by kernel_rfl) (Nat.le_of_ble_eq_true rfl) (by kernel_rfl) ?_; intro W12 hB hP; have HS12 := Lib.hid (HS10.out.put 0 rfl (new := nsA (durS nodes l lo hi)) hB hP); clear hB hP HS10))
      exact post_cell_tmp (x := .int .i64 0) rfl rfl rfl (HS12.out.at_ 0 rfl) Tryd.underlying24 rfl (by kernel_rfl) rfl ⟨rfl, HS12.out.below⟩
/-- What is free all through a span, and whether it may be. -/
def durN (nodes : NS) (l : List (Sp NS)) (t0 lo hi : Int) : NS := if spanE t0 lo hi = 0 then durS nodes l lo hi else emptyS
theorem during_c (g : Nat) (nodes : NS) (A : Option Addr) (c : Nat) (l : List (Sp NS)) (t0 lo hi : Int) (w : World) (h : PfOk w g nodes A c l t0) :
    Calls Tryd.prog 54 #[.pointer (some ⟨g, 0, none⟩), .int .i64 lo, .int .i64 hi] w fun e w' => e = .returned (.tuple #[nsV (durN nodes l t0 lo hi), .int .i64 (spanE t0 lo hi)]) ∧ Below w.heap.size w w' := by
  unfold durN
  rcases spanE_cases t0 lo hi with h1 | h1
  · rw [h1, if_pos rfl]; exact during_yes g nodes A c l t0 lo hi w h h1
  · rw [h1, if_neg (by decide)]; exact during_no g nodes A c l t0 lo hi w h h1
end Go.Proofs.YtkgphbjneaagoaaDoor

set_option linter.unusedVariables false
namespace Go.Proofs.YtkgphbjneaagoaaDoor
open Go.RowKit Go.Sort

theorem eqNs_run (s t : NS) (w : World) : (Op.equalIn 10000 24 (nsV s) (nsV t)).run Tryd.prog w = .ok (decide (s = t)) w := by
  rw [← eq_words]
  exact eq_arr _ _ _ _ _ _ _ _ w
theorem info_step : (Tryd.prog.info? 113).map (fun i => (i.zero, i.size, i.bytes)) = some (some (.agg z5P), 5, 40) := by kernel_rfl
/-- 'out': its block, and its steps in a row. -/
def Own.out (b : Nat) (A : Option Addr) (c : Nat) (l : List (Sp NS)) : Own where
  bl k := k = b ∨ (slP A c l).ownBlock = some k
  ok W := (Own.blk b 114 #[slP A c l]).ok W ∧ (rowP A c l).ok W ∧ (slP A c l).ownBlock ≠ some b
  lt W h k hk := hk.elim (fun h1 => (Own.blk b 114 #[slP A c l]).lt W h.1 k h1) (fun h1 => (rowP A c l).lt W h.2.1 k h1)
  keep W W' hk h := ⟨(Own.blk b 114 #[slP A c l]).keep W W' (fun k h1 => hk k (.inl h1)) h.1, (rowP A c l).keep W W' (fun k h1 => hk k (.inr h1)) h.2.1, h.2.2⟩
theorem Ms.outOf {w W : World} {ex : Nat → Prop} {l : List Own} {b : Nat} {A : Option Addr} {c : Nat} {s : List (Sp NS)} (h : Ms w ex l W) (i j : Nat) (hi : l[i]? = some (.blk b 114 #[slP A c s])) (hj : l[j]? = some (rowP A c s)) (hij : i ≠ j) : Ms w ex [.out b A c s] W := by
  have h2 := h.pick (fun k => if k = 0 then i else j) [.blk b 114 #[slP A c s], rowP A c s] (fun k o hk => by
    match k, hk with
    | 0, hk => simp at hk; subst hk; simpa using hi
    | 1, hk => simp at hk; subst hk; simpa using hj
    | k + 2, hk => simp at hk) (fun a b ha hb he => by
    simp only [List.length_cons, List.length_nil] at ha hb
    by_cases ha0 : a = 0 <;> by_cases hb0 : b = 0 <;> simp [ha0, hb0] at he <;> omega)
  exact h2.join (fun h1 h3 => ⟨h1, h3, fun e => h2.apart 0 1 _ _ rfl rfl (by decide) b rfl e⟩) (fun k hk => hk)
theorem Ms.ofOut {w : World} {b : Nat} {A : Option Addr} {c : Nat} {s : List (Sp NS)} (h : (Own.out b A c s).ok w) : Ms w (Own.out b A c s).bl [.blk b 114 #[slP A c s], rowP A c s] w :=
  Ms.start2 (a := .blk b 114 #[slP A c s]) (b := rowP A c s) h.1 h.2.1 (fun k hk hk2 => h.2.2 (by have e : k = b := hk; rw [← e]; exact hk2))
/-- What put leaves. -/
def PutPost (w : World) (b : Nat) (A : Option Addr) (c : Nat) (l l' : List (Sp NS)) (e : Ending) (W : World) : Prop := e = .returned (.tuple #[]) ∧ ∃ A' c', Ms w (Own.out b A c l).bl [.out b A' c' l'] W
theorem spC_snoc (l : List (Sp NS)) (x : Sp NS) : spC l ++ spL x = spC (l ++ [x]) := by rw [spC_append, spC_one]
theorem slP_snoc (A : Option Addr) (c : Nat) (l : List (Sp NS)) (x : Sp NS) : Value.slice A (l.length + 1) c = slP A c (l ++ [x]) := by simp [slP]
set_option maxRecDepth 100000 in
set_option maxHeartbeats 8000000 in
theorem put_nil (b : Nat) (A : Option Addr) (c : Nat) (at_ : Int) (f : NS) (w : World) (h : (Own.out b A c []).ok w) :
    Calls Tryd.prog 67 #[.int .i64 at_, nsV f, .pointer (some ⟨b, 0, none⟩)] w (PutPost w b A c [] [⟨at_, f⟩]) := by
  have HS0 := Lib.hid (Ms.ofOut h)
  clear h
  go_enter Tryd.func67, Tryd.ntmps67
  go_wp2_with (have hq := HS0; clear hq; refine wpList_alloc_b rfl (some 4) rfl 24 (nsA f) (by kernel_rfl) ?_; intro g1 W1 hb hB hg; have HS1 := Lib.hid (HS0.out.new hb hB hg); clear hb hB hg HS0; obtain ⟨r1, r2, r3⟩ := HS1.out.rules 0 rfl)
  go_quiet (fail)
  have HS2 := Lib.hid (HS1.out.drewN nq)
  clear HS1 r1 r2 r3
  obtain ⟨r1, r2, r3⟩ := HS2.out.rules 0 rfl
  go_wp2_with (first
    | (have hq := HS2; clear hq; refine wpList_load_at rfl 24 _ rfl (HS2.out.at_ 2 rfl) 4 (nsV f) rfl _ Tryd.underlying24 rfl (by kernel_rfl) (Nat.le_of_ble_eq_true rfl) rfl ?_)
    | (have hq := HS2; clear hq; refine wpList_build_b rfl (some 42) rfl 113 1 (spA ⟨at_, f⟩) (by kernel_rfl) ?_; intro g2 W2 hb hB hg; have HS3 := Lib.hid (HS2.out.new hb hB hg); clear hb hB hg HS2)
    | (have hq := HS3; clear hq; refine append_row HS3.out 1 3 rfl _ _ 114 113 5 40 (.agg z5P) rfl Tryd.underlying114 info_step rfl (by decide) (slP A c []) 0 1 (spC []) (spL ⟨at_, f⟩) g2 _ _ rfl rfl rfl rfl rfl rfl rfl (by decide) (by decide) 1 _ rfl rfl ?_; intro A' c' W4 hM; have HS4 := Lib.hid hM; clear hM HS3)
    | (have hq := HS4; clear hq; refine wpList_store_at rfl 114 _ _ rfl (HS4.out.at_ 0 rfl) (.slice A' 1 c') rfl rfl (by kernel_rfl) (Nat.le_of_ble_eq_true rfl) (by kernel_rfl) ?_; intro W5 hB hP; have HS5 := Lib.hid (HS4.out.put 0 rfl (new := #[.slice A' 1 c']) hB hP); clear hB hP HS4))
  go_end0
  exact ⟨rfl, A', c', HS5.out.outOf 0 1 rfl rfl (by decide)⟩
theorem row_spot {w : World} {A : Option Addr} {c : Nat} {l : List (Sp NS)} (h : (rowP A c l).ok w) (ad : Addr) (hA : A = some ad) (hp : 0 < l.length) : ad.spot = none := by
  obtain ⟨b, cap, e, _⟩ := World.ownsRow.form (h : w.ownsRow 0 113 5 (slP A c l) l.length (spC l)) hp
  injection e with e1
  rw [hA] at e1
  injection e1 with e1
  rw [e1]
set_option maxRecDepth 100000 in
set_option maxHeartbeats 8000000 in
theorem put_same (b : Nat) (A : Option Addr) (c : Nat) (l : List (Sp NS)) (m : Nat) (hm : l.length = m + 1) (hl : l.length ≤ 1048576) (at_ : Int) (w : World) (h : (Own.out b A c l).ok w) (hat : (stp emptyS l m).at_ < at_) :
    Calls Tryd.prog 67 #[.int .i64 at_, nsV (stp emptyS l m).free, .pointer (some ⟨b, 0, none⟩)] w (PutPost w b A c l l) := by
  have HEQ := Lib.hid (fun w9 => show (Op.equalIn 10000 24 (nsV (stp emptyS l m).free) (nsV (stp emptyS l m).free)).run Tryd.prog w9 = .ok true w9 by rw [eqNs_run]; simp)
  have HS0 := Lib.hid (Ms.ofOut h)
  have HR := Lib.hid (rowP_read h.2.1 hl)
  obtain ⟨ad, hA, -⟩ := HR.out.2.2 (by omega)
  have HAP := Lib.hid (row_spot h.2.1 ad hA (by omega))
  subst hA
  have hmL' : m < l.length := by omega
  have HL := Lib.hid hl
  have HC := Lib.hid (show w.cell? (ad.add (m * 5)) = some (.int .i64 (stp emptyS l m).at_) from HR.out.at_ (i := m) hmL' 0 _ rfl)
  obtain ⟨s, hs⟩ : ∃ s, s = stp emptyS l m := ⟨_, rfl⟩
  have HSS := Lib.hid hs
  rw [← hs] at HC hat HEQ ⊢
  have hmI : (l.length : Int) - 1 = (m : Int) := by omega
  have hm0 : (0 : Int) < (l.length : Int) := by omega
  have hm1 : ((l.length : Int) == 0) = false := beq_false_of_ne (by omega)
  have hlI : (l.length : Int) ≤ 1048576 := by omega
  have hmL : (m : Int) < (l.length : Int) := by omega
  have hne : ¬ s.at_ = at_ := by omega
  have hwm : IntKind.i64.wrap (m : Int) = (m : Int) := by rw [IntKind.wrap_i64]; omega
  clear h hs HR hl hm
  go_enter Tryd.func67, Tryd.ntmps67
  go_wp2_with (have hq := HS0; clear hq; refine wpList_alloc_b rfl (some 4) rfl 24 (nsA s.free) (by kernel_rfl) ?_; intro g1 W1 hb hB hg; have HS1 := Lib.hid (HS0.out.new hb hB hg); have hcell : W1.cell? (ad.add (m * 5)) = some (.int .i64 s.at_) := (hb.cell (block_lt_of_cell HC.out)).trans HC.out; clear hb hB hg HS0 HC; obtain ⟨r1, r2, r3⟩ := HS1.out.rules 0 rfl)
  clear hcell r1 r2 r3
  refine region_b (Ms w _ _) (by kernel_rfl) (by kernel_rfl) HS1.out ?_
  clear HS1
  intro W4 hS
  have q0 := hS.on 0 rfl
  have HC4 := Lib.hid (ReadsP.free (rowP_read (hS.ok 1 _ rfl) HL.out) HAP.out hmL')
  have HS4 := Lib.hid hS
  rw [← HSS.out] at HC4
  clear hS
  repeat (first
    | (refine wpQuiet_load_ad (by kernel_rfl) 24 _ rfl ((ad.add (m * 5)).add 1) (nsL s.free) (by simp) HC4.out rfl _ (nsV s.free) rfl Tryd.underlying24 rfl (by kernel_rfl) ?_)
    | (refine wpQuiet_load_b (by kernel_rfl) 24 _ rfl (HS4.out.at_ 2 rfl) 4 (nsV s.free) rfl _ Tryd.underlying24 rfl (by kernel_rfl) (Nat.le_of_ble_eq_true rfl) rfl ?_)
    | (refine wpQuiet_neq (by kernel_rfl) 24 _ _ _ rfl rfl rfl (by kernel_rfl) true (fun w9 => HEQ.out w9) ?_)
    | go_big_quiet_step (fail) | quiet_step (fail))
  refine wpQuiet_nil ?_
  intro W5 hb
  have HS5 := Lib.hid (HS4.out.after hb)
  clear hb HS4 q0 HC4
  go_wp2_with fail
  go_end0
  exact ⟨rfl, some ad, c, HS5.out.outOf 0 1 rfl rfl (by decide)⟩
set_option maxRecDepth 100000 in
set_option maxHeartbeats 8000000 in
theorem put_new (b : Nat) (A : Option Addr) (c : Nat) (l : List (Sp NS)) (m : Nat) (hm : l.length = m + 1) (hl : l.length ≤ 1048576) (at_ : Int) (f : NS) (w : World) (h : (Own.out b A c l).ok w) (hat : (stp emptyS l m).at_ < at_) (hf : (stp emptyS l m).free ≠ f) :
    Calls Tryd.prog 67 #[.int .i64 at_, nsV f, .pointer (some ⟨b, 0, none⟩)] w (PutPost w b A c l (l ++ [⟨at_, f⟩])) := by
  have HEQ := Lib.hid (fun w9 => show (Op.equalIn 10000 24 (nsV (stp emptyS l m).free) (nsV f)).run Tryd.prog w9 = .ok false w9 by rw [eqNs_run, decide_eq_false hf])
  have HS0 := Lib.hid (Ms.ofOut h)
  have HR := Lib.hid (rowP_read h.2.1 hl)
  obtain ⟨ad, hA, -⟩ := HR.out.2.2 (by omega)
  have HAP := Lib.hid (row_spot h.2.1 ad hA (by omega))
  subst hA
  have hmL' : m < l.length := by omega
  have HL := Lib.hid hl
  have HC := Lib.hid (show w.cell? (ad.add (m * 5)) = some (.int .i64 (stp emptyS l m).at_) from HR.out.at_ (i := m) hmL' 0 _ rfl)
  obtain ⟨s, hs⟩ : ∃ s, s = stp emptyS l m := ⟨_, rfl⟩
  have HSS := Lib.hid hs
  rw [← hs] at HC hat HEQ
  have hmI : (l.length : Int) - 1 = (m : Int) := by omega
  have hm0 : (0 : Int) < (l.length : Int) := by omega
  have hm1 : ((l.length : Int) == 0) = false := beq_false_of_ne (by omega)
  have hlI : (l.length : Int) ≤ 1048576 := by omega
  have hmL : (m : Int) < (l.length : Int) := by omega
  have hne : ¬ s.at_ = at_ := by omega
  have hwm : IntKind.i64.wrap (m : Int) = (m : Int) := by rw [IntKind.wrap_i64]; omega
  clear h hs HR hl hm
  go_enter Tryd.func67, Tryd.ntmps67
  go_wp2_with (have hq := HS0; clear hq; refine wpList_alloc_b rfl (some 4) rfl 24 (nsA f) (by kernel_rfl) ?_; intro g1 W1 hb hB hg; have HS1 := Lib.hid (HS0.out.new hb hB hg); have hcell : W1.cell? (ad.add (m * 5)) = some (.int .i64 s.at_) := (hb.cell (block_lt_of_cell HC.out)).trans HC.out; clear hb hB hg HS0 HC; obtain ⟨r1, r2, r3⟩ := HS1.out.rules 0 rfl)
  clear hcell r1 r2 r3
  refine region_b (Ms w _ _) (by kernel_rfl) (by kernel_rfl) HS1.out ?_
  clear HS1
  intro W4 hS
  have q0 := hS.on 0 rfl
  have HC4 := Lib.hid (ReadsP.free (rowP_read (hS.ok 1 _ rfl) HL.out) HAP.out hmL')
  have HS4 := Lib.hid hS
  rw [← HSS.out] at HC4
  clear hS
  repeat (first
    | (refine wpQuiet_load_ad (by kernel_rfl) 24 _ rfl ((ad.add (m * 5)).add 1) (nsL s.free) (by simp) HC4.out rfl _ (nsV s.free) rfl Tryd.underlying24 rfl (by kernel_rfl) ?_)
    | (refine wpQuiet_load_b (by kernel_rfl) 24 _ rfl (HS4.out.at_ 2 rfl) 4 (nsV f) rfl _ Tryd.underlying24 rfl (by kernel_rfl) (Nat.le_of_ble_eq_true rfl) rfl ?_)
    | (refine wpQuiet_neq (by kernel_rfl) 24 _ _ _ rfl rfl rfl (by kernel_rfl) false (fun w9 => HEQ.out w9) ?_)
    | go_big_quiet_step (fail) | quiet_step (fail))
  refine wpQuiet_nil ?_
  intro W5 hb
  have HS5 := Lib.hid (HS4.out.after hb)
  clear hb HS4 q0 HC4
  obtain ⟨r1, r2, r3⟩ := HS5.out.rules 0 rfl
  have hsz := HL.out
  go_wp2_with (first
    | (have hq := HS5; clear hq; refine wpList_load_at rfl 24 _ rfl (HS5.out.at_ 2 rfl) 4 (nsV f) rfl _ Tryd.underlying24 rfl (by kernel_rfl) (Nat.le_of_ble_eq_true rfl) rfl ?_)
    | (have hq := HS5; clear hq; refine wpList_build_b rfl (some 42) rfl 113 1 (spA ⟨at_, f⟩) (by kernel_rfl) ?_; intro g2 W6 hb hB hg; have HS6 := Lib.hid (HS5.out.new hb hB hg); clear hb hB hg HS5)
    | (have hq := HS6; clear hq; refine append_row HS6.out 1 3 rfl _ _ 114 113 5 40 (.agg z5P) rfl Tryd.underlying114 info_step rfl (by decide) (slP (some ad) c l) l.length 1 (spC l) (spL ⟨at_, f⟩) g2 _ _ rfl rfl rfl rfl rfl rfl rfl (by omega) (by simp only [maxLen]; omega) (l ++ [(⟨at_, f⟩ : Sp NS)]).length (spC (l ++ [(⟨at_, f⟩ : Sp NS)])) (by simp) (spC_snoc l ⟨at_, f⟩) ?_; intro A' c' W7 hM; have HS7 := Lib.hid hM; clear hM HS6)
    | (have hq := HS7; clear hq; refine wpList_store_at rfl 114 _ _ rfl (HS7.out.at_ 0 rfl) (slP A' c' (l ++ [(⟨at_, f⟩ : Sp NS)])) rfl rfl (by kernel_rfl) (Nat.le_of_ble_eq_true rfl) (by kernel_rfl) ?_; intro W8 hB hP; have HS8 := Lib.hid (HS7.out.put 0 rfl (new := #[slP A' c' (l ++ [(⟨at_, f⟩ : Sp NS)])]) hB hP); clear hB hP HS7))
  go_end0
  exact ⟨rfl, A', c', HS8.out.outOf 0 1 rfl rfl (by decide)⟩
theorem put_c (b : Nat) (A : Option Addr) (c : Nat) (l : List (Sp NS)) (hl : l.length ≤ 1048576) (at_ : Int) (f : NS) (w : World) (h : (Own.out b A c l).ok w) (hat : ∀ s ∈ l, s.at_ < at_) :
    Calls Tryd.prog 67 #[.int .i64 at_, nsV f, .pointer (some ⟨b, 0, none⟩)] w (PutPost w b A c l (putP l at_ f)) := by
  rcases List.eq_nil_or_concat l with rfl | ⟨k, x, rfl⟩
  · exact put_nil b A c at_ f w h
  · rw [List.concat_eq_append] at h hl hat ⊢
    have hm : (k ++ [x]).length = k.length + 1 := by simp
    have hx : stp emptyS (k ++ [x]) k.length = x := by simp [stp]
    have hg : (k ++ [x]).getLast? = some x := by simp
    have ha := hat x (by simp)
    by_cases hf : x.free = f
    · have e : putP (k ++ [x]) at_ f = k ++ [x] := by unfold putP; rw [hg]; simp [hf]
      rw [e]
      have := put_same b A c (k ++ [x]) k.length hm hl at_ w h (by rw [hx]; exact ha)
      rw [hx, hf] at this
      exact this
    · have e : putP (k ++ [x]) at_ f = k ++ [x] ++ [⟨at_, f⟩] := by unfold putP; rw [hg]; simp [hf]
      rw [e]
      exact put_new b A c (k ++ [x]) k.length hm hl at_ f w h (by rw [hx]; exact ha) (by rw [hx]; exact hf)
end Go.Proofs.YtkgphbjneaagoaaDoor
