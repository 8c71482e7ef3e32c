/- Prof: Earliest. -/
import Derived.Test.YtkgphbjneaagoaaDoorFd
set_option linter.unusedVariables false
namespace Go.Proofs.YtkgphbjneaagoaaDoor
open Go.RowKit Go.Sort

/-- The first time from lo on at which there is enough. -/
structure EarlAt (nodes : NS) (l : List (Sp NS)) (n long lo : Int) (of : NS) (t : Int) : Prop where
  ge : lo ≤ t
  will : Will nodes l 2199023255552 n long of t
  least : ∀ u, lo ≤ u → u < t → ¬ Will nodes l 2199023255552 n long of u
theorem EarlAt.uniq {nodes : NS} {l : List (Sp NS)} {n long lo : Int} {of : NS} {t u : Int} (h : EarlAt nodes l n long lo of t) (k : EarlAt nodes l n long lo of u) : t = u := by
  rcases Int.lt_trichotomy t u with h1 | h1 | h1
  · exact absurd h.will (k.least t h.ge h1)
  · exact h1
  · exact absurd k.will (h.least u k.ge h1)
open Classical in
noncomputable def earlT (nodes : NS) (l : List (Sp NS)) (n long lo : Int) (of : NS) : Option Int := if h : ∃ t, EarlAt nodes l n long lo of t then some (Classical.choose h) else none
theorem earlT_some {nodes : NS} {l : List (Sp NS)} {n long lo : Int} {of : NS} {t : Int} (h : EarlAt nodes l n long lo of t) : earlT nodes l n long lo of = some t := by
  unfold earlT
  have hx : ∃ t, EarlAt nodes l n long lo of t := ⟨t, h⟩
  rw [dif_pos hx, (Classical.choose_spec hx).uniq h]
theorem earlT_none {nodes : NS} {l : List (Sp NS)} {n long lo : Int} {of : NS} (h : ∀ t, lo ≤ t → ¬ Will nodes l 2199023255552 n long of t) : earlT nodes l n long lo of = none := by
  unfold earlT
  rw [dif_neg]
  rintro ⟨t, ht⟩
  exact h t ht.ge ht.will
theorem of_earlT {nodes : NS} {l : List (Sp NS)} {n long lo : Int} {of : NS} {t : Int} (h : earlT nodes l n long lo of = some t) : EarlAt nodes l n long lo of t := by
  unfold earlT at h
  split at h
  · rename_i hx
    have e := Option.some.inj h
    rw [← e]
    exact Classical.choose_spec hx
  · cases h
/-- What is asked for may not be. -/
def badAsk (t0 n long lo : Int) : Prop := n < 0 ∨ 256 < n ∨ long < 1 ∨ 1099511627776 < long ∨ lo < t0 ∨ 1099511627776 < lo
/-- What Earliest answers. -/
inductive EarlP (nodes : NS) (l : List (Sp NS)) (t0 n long lo : Int) (of : NS) : Ending → Prop where
  | bad (h : badAsk t0 n long lo) : EarlP nodes l t0 n long lo of (.returned (.tuple #[.int .i64 0, nsV emptyS, .int .i64 1]))
  | none (h : ¬ badAsk t0 n long lo) (hn : ∀ t, lo ≤ t → ¬ Will nodes l 2199023255552 n long of t) : EarlP nodes l t0 n long lo of (.returned (.tuple #[.int .i64 0, nsV emptyS, .int .i64 9]))
  | some (h : ¬ badAsk t0 n long lo) (t : Int) (ht : EarlAt nodes l n long lo of t) : EarlP nodes l t0 n long lo of (.returned (.tuple #[.int .i64 t, nsV (firstS (durS nodes l t (t + long) &&& of) n), .int .i64 0]))
theorem earl_next {nodes : NS} {l : List (Sp NS)} {t0 n long lo : Int} {of : NS} {k i0 : Nat} (h : Prf t0 2199023255552 l) (h0 : t0 ≤ lo) (hl : 0 < long) (hi0 : At emptyS l lo i0) (hik : i0 ≤ k) (hk : k < l.length)
    (hw : ¬ Will nodes l 2199023255552 n long of (max lo (stp emptyS l k).at_)) (hb : ∀ t, lo ≤ t → t < max lo (stp emptyS l k).at_ → ¬ Will nodes l 2199023255552 n long of t) :
    ∀ t, lo ≤ t → (k + 1 < l.length → t < max lo (stp emptyS l (k + 1)).at_) → ¬ Will nodes l 2199023255552 n long of t := by
  intro t h1 h2 h3
  rcases Int.lt_or_le t (max lo (stp emptyS l k).at_) with h4 | h4
  · exact hb t h1 h4 h3
  · have hat : At emptyS l t k := ⟨hk, by omega, fun h9 => by
      have h5 := h2 h9
      have h6 : lo < (stp emptyS l (k + 1)).at_ := by
        have h7 := hi0.next (by omega)
        rcases Nat.lt_or_ge i0 k with h8 | h8
        · have := stp_lt emptyS h.can (i := i0 + 1) (j := k + 1) (by omega) h9; omega
        · have e : k = i0 := by omega
          rw [e]; exact h7
      omega⟩
    exact hw (h3.back h h0 hl h1 hat)
theorem will_iff {nodes : NS} {l : List (Sp NS)} {n long t : Int} {of : NS} (hE : t + long ≤ 2199023255552) (hn : 0 ≤ n) : Will nodes l 2199023255552 n long of t ↔ firstOk (durS nodes l t (t + long) &&& of) n = true := by
  unfold Will firstOk
  simp [hE, hn]
set_option maxRecDepth 100000 in
set_option maxHeartbeats 16000000 in
theorem earliest_no (g : Nat) (nodes : NS) (A : Option Addr) (c : Nat) (l : List (Sp NS)) (t0 n long lo : Int) (of : NS) (w : World) (h : PfOk w g nodes A c l t0) (hb : badAsk t0 n long lo) :
    Calls Tryd.prog 44 #[.pointer (some ⟨g, 0, none⟩), .int .i64 n, .int .i64 long, .int .i64 lo, nsV of] w fun e w' => EarlP nodes l t0 n long lo of e ∧ Below w.heap.size w w' := by
  have HB := Lib.hid (EarlP.bad (nodes := nodes) (l := l) (of := of) hb)
  obtain ⟨ad, hAe, -⟩ := h.read.2.2 h.pos
  subst hAe
  have HH := Lib.hid h
  have hp : 0 < l.length := h.pos
  have hpI : (0 : Int) < (l.length : Int) := by omega
  have hlI : (l.length : Int) ≤ 1048576 := by have := h.len; omega
  clear h
  unfold badAsk at hb
  have HS0 := Lib.hid (Ms.nil w noB)
  go_enter Tryd.func44, Tryd.ntmps44
  go_wp2_with (first
    | (have hq := HS0; clear hq; (with_reducible refine atBox ?_); refine wpList_alloc_b rfl (some 9) rfl 24 (nsA of) (by kernel_rfl) ?_; intro g1 W1 hb hB hg; have HS1 := Lib.hid (HS0.out.new hb hB hg); clear hb hB hg HS0)
    | (have hq := HS1; clear hq; (with_reducible refine atAlloc ?_); refine wpList_alloc_b rfl (some 11) rfl 24 z4P (by kernel_rfl) ?_; intro g2 W2 hb hB hg; have HS2 := Lib.hid (HS1.out.new hb hB hg); clear hb hB hg HS1))
  refine (ok_c g nodes (some ad) c l t0 _ (HH.out.after HS2.out.below)).mono ?_
  rintro e W3 ⟨rfl, hb⟩
  have HS3 := Lib.hid (HS2.out.after hb)
  clear hb HS2
  obtain ⟨r1, r2, r3⟩ := (HH.out.after HS3.out.below).blk.rules
  have hcell : W3.cell? ad = some (.int .i64 t0) := by
    have h1 := nextCell (HH.out.after HS3.out.below) HH.out.pos
    rw [HH.out.first] at h1
    have e : ad.add (0 * 5) = ad := by cases ad; simp [Addr.add]
    rwa [e] at h1
  by_cases q0 : n < 0
  · clear hb
    go_wp2_with (have hq := HS3; clear hq; (with_reducible refine atStore ?_); refine wpList_store_at rfl 24 _ _ rfl (HS3.out.at_ 1 rfl) (.agg z4P) rfl rfl (by kernel_rfl) (Nat.le_of_ble_eq_true rfl) (by kernel_rfl) ?_; intro W6 hB hP; have HS6 := Lib.hid (HS3.out.put 1 rfl (new := z4P) hB hP); clear hB hP HS3)
    exact post_tmp_cell_tmp (x := .int .i64 1) (y := .int .i64 0) rfl rfl rfl rfl (HS6.out.at_ 1 rfl) Tryd.underlying24 rfl (by kernel_rfl) rfl ⟨HB.out, HS6.out.below⟩
  · have q0n : 0 ≤ n := by omega
    by_cases q1 : 256 < n
    · clear hb
      go_wp2_with (have hq := HS3; clear hq; (with_reducible refine atStore ?_); refine wpList_store_at rfl 24 _ _ rfl (HS3.out.at_ 1 rfl) (.agg z4P) rfl rfl (by kernel_rfl) (Nat.le_of_ble_eq_true rfl) (by kernel_rfl) ?_; intro W6 hB hP; have HS6 := Lib.hid (HS3.out.put 1 rfl (new := z4P) hB hP); clear hB hP HS3)
      exact post_tmp_cell_tmp (x := .int .i64 1) (y := .int .i64 0) rfl rfl rfl rfl (HS6.out.at_ 1 rfl) Tryd.underlying24 rfl (by kernel_rfl) rfl ⟨HB.out, HS6.out.below⟩
    · have q1n : n ≤ 256 := by omega
      by_cases q2 : long < 1
      · clear hb
        go_wp2_with (have hq := HS3; clear hq; (with_reducible refine atStore ?_); refine wpList_store_at rfl 24 _ _ rfl (HS3.out.at_ 1 rfl) (.agg z4P) rfl rfl (by kernel_rfl) (Nat.le_of_ble_eq_true rfl) (by kernel_rfl) ?_; intro W6 hB hP; have HS6 := Lib.hid (HS3.out.put 1 rfl (new := z4P) hB hP); clear hB hP HS3)
        exact post_tmp_cell_tmp (x := .int .i64 1) (y := .int .i64 0) rfl rfl rfl rfl (HS6.out.at_ 1 rfl) Tryd.underlying24 rfl (by kernel_rfl) rfl ⟨HB.out, HS6.out.below⟩
      · have q2n : 1 ≤ long := by omega
        by_cases q3 : 1099511627776 < long
        · clear hb
          go_wp2_with (have hq := HS3; clear hq; (with_reducible refine atStore ?_); refine wpList_store_at rfl 24 _ _ rfl (HS3.out.at_ 1 rfl) (.agg z4P) rfl rfl (by kernel_rfl) (Nat.le_of_ble_eq_true rfl) (by kernel_rfl) ?_; intro W6 hB hP; have HS6 := Lib.hid (HS3.out.put 1 rfl (new := z4P) hB hP); clear hB hP HS3)
          exact post_tmp_cell_tmp (x := .int .i64 1) (y := .int .i64 0) rfl rfl rfl rfl (HS6.out.at_ 1 rfl) Tryd.underlying24 rfl (by kernel_rfl) rfl ⟨HB.out, HS6.out.below⟩
        · have q3n : long ≤ 1099511627776 := by omega
          by_cases q4 : lo < t0
          · clear hb
            go_wp2_with (have hq := HS3; clear hq; (with_reducible refine atStore ?_); refine wpList_store_at rfl 24 _ _ rfl (HS3.out.at_ 1 rfl) (.agg z4P) rfl rfl (by kernel_rfl) (Nat.le_of_ble_eq_true rfl) (by kernel_rfl) ?_; intro W6 hB hP; have HS6 := Lib.hid (HS3.out.put 1 rfl (new := z4P) hB hP); clear hB hP HS3)
            exact post_tmp_cell_tmp (x := .int .i64 1) (y := .int .i64 0) rfl rfl rfl rfl (HS6.out.at_ 1 rfl) Tryd.underlying24 rfl (by kernel_rfl) rfl ⟨HB.out, HS6.out.below⟩
          · have q4n : t0 ≤ lo := by omega
            have q5 : 1099511627776 < lo := by omega
            clear hb
            go_wp2_with (have hq := HS3; clear hq; (with_reducible refine atStore ?_); refine wpList_store_at rfl 24 _ _ rfl (HS3.out.at_ 1 rfl) (.agg z4P) rfl rfl (by kernel_rfl) (Nat.le_of_ble_eq_true rfl) (by kernel_rfl) ?_; intro W6 hB hP; have HS6 := Lib.hid (HS3.out.put 1 rfl (new := z4P) hB hP); clear hB hP HS3)
            exact post_tmp_cell_tmp (x := .int .i64 1) (y := .int .i64 0) rfl rfl rfl rfl (HS6.out.at_ 1 rfl) Tryd.underlying24 rfl (by kernel_rfl) rfl ⟨HB.out, HS6.out.below⟩
set_option maxRecDepth 100000 in
set_option maxHeartbeats 16000000 in
theorem earliest_yes (g : Nat) (nodes : NS) (A : Option Addr) (c : Nat) (l : List (Sp NS)) (t0 n long lo : Int) (of : NS) (w : World) (h : PfOk w g nodes A c l t0) (hT : TabW w) (hb : ¬ badAsk t0 n long lo) :
    Calls Tryd.prog 44 #[.pointer (some ⟨g, 0, none⟩), .int .i64 n, .int .i64 long, .int .i64 lo, nsV of] w fun e w' => EarlP nodes l t0 n long lo of e ∧ Below w.heap.size w w' := by
  have HNb := Lib.hid hb
  have HTab := Lib.hid hT
  obtain ⟨ad, hAe, -⟩ := h.read.2.2 h.pos
  subst hAe
  have HH := Lib.hid h
  have hp : 0 < l.length := h.pos
  have hpI : (0 : Int) < (l.length : Int) := by omega
  have hlI : (l.length : Int) ≤ 1048576 := by have := h.len; omega
  have hbb : 0 ≤ n ∧ n ≤ 256 ∧ 1 ≤ long ∧ long ≤ 1099511627776 ∧ t0 ≤ lo ∧ lo ≤ 1099511627776 := by unfold badAsk at hb; omega
  obtain ⟨q1, q2, q3, q4, q5, q6⟩ := hbb
  have HQ := Lib.hid (show 0 ≤ n ∧ n ≤ 256 ∧ 1 ≤ long ∧ long ≤ 1099511627776 ∧ t0 ≤ lo ∧ lo ≤ 1099511627776 from ⟨q1, q2, q3, q4, q5, q6⟩)
  obtain ⟨i0, hi0⟩ := At.ex (d := emptyS) h.prf q5
  have HI0 := Lib.hid hi0
  have hil := hi0.lt
  have HL0 := Lib.hid (h.low)
  clear h hT hb hi0
  have HS0 := Lib.hid (Ms.nil w noB)
  go_enter Tryd.func44, Tryd.ntmps44
  go_wp2_with (first
    | (have hq := HS0; clear hq; (with_reducible refine atBox ?_); refine wpList_alloc_b rfl (some 9) rfl 24 (nsA of) (by kernel_rfl) ?_; intro g1 W1 hb hB hg; have HS1 := Lib.hid (HS0.out.new hb hB hg); clear hb hB hg HS0)
    | (have hq := HS1; clear hq; (with_reducible refine atAlloc ?_); refine wpList_alloc_b rfl (some 11) rfl 24 z4P (by kernel_rfl) ?_; intro g2 W2 hb hB hg; have HS2 := Lib.hid (HS1.out.new hb hB hg); clear hb hB hg HS1))
  refine (ok_c g nodes (some ad) c l t0 _ (HH.out.after HS2.out.below)).mono ?_
  rintro e W3 ⟨rfl, hb⟩
  have HS3 := Lib.hid (HS2.out.after hb)
  clear hb HS2
  obtain ⟨r1, r2, r3⟩ := (HH.out.after HS3.out.below).blk.rules
  have hcell : W3.cell? ad = some (.int .i64 t0) := by
    have h1 := nextCell (HH.out.after HS3.out.below) HH.out.pos
    rw [HH.out.first] at h1
    have e : ad.add (0 * 5) = ad := by cases ad; simp [Addr.add]
    rwa [e] at h1
  go_wp2_with fail
  refine (find_i g nodes (some ad) c l t0 lo i0 _ (HH.out.after HS3.out.below) ⟨q5, by omega⟩ HI0.out).mono ?_
  rintro e W4 ⟨rfl, hb⟩
  have HS4 := Lib.hid (HS3.out.after hb)
  clear hb HS3 hcell r1 r2 r3
  clear q1 q2
  have hlow := HL0.out
  go_wp2_with fail
  go_loopw [13] (fun k wr => ∃ kk : Nat, i0 ≤ kk ∧ kk ≤ l.length ∧ k = .int .i64 (kk : Nat) ∧ Hid (∀ t, lo ≤ t → (kk < l.length → t < max lo (stp emptyS l kk).at_) → ¬ Will nodes l 2199023255552 n long of t) ∧ Hid (Ms w noB [.blk g1 24 (nsA of), .blk g2 24 z4P] wr)) (fun k _ => l.length - (intOf k).toNat)
  case atStart => exact ⟨i0, by omega, by omega, rfl, Lib.hid (fun t h1 h2 => by have := h2 hil; have := HI0.out.le; omega), HS4⟩
  case round =>
    obtain ⟨k, hik, hkl, rfl, HBf, HS5⟩ := hrel
    have hkI : (k : Int) ≤ (l.length : Int) := by omega
    obtain ⟨r1, r2, r3⟩ := (HH.out.after HS5.out.below).blk.rules
    by_cases hlt : k < l.length
    · have hltI : (k : Int) < (l.length : Int) := by omega
      have hcell := nextCell (HH.out.after HS5.out.below) hlt
      obtain ⟨x, hx⟩ : ∃ x, x = stp emptyS l k := ⟨_, rfl⟩
      have HXX := Lib.hid hx
      have HXB := Lib.hid (stp_bounds HH.out.prf hlt)
      rw [← hx] at hcell HXB
      clear hx
      obtain ⟨at_, hat⟩ : ∃ at_, at_ = max lo x.at_ := ⟨_, rfl⟩
      have HAT := Lib.hid hat
      have hal : lo ≤ at_ := by omega
      have hau : at_ ≤ 2199023255552 := by have := HXB.out; omega
      have hac : max lo x.at_ = at_ := hat.symm
      have HAL := Lib.hid (show lo ≤ at_ ∧ at_ ≤ 2199023255552 from ⟨hal, hau⟩)
      clear hat
      go_wp2_with fail
      clear r1 r2 r3 hcell
      refine (during_c g nodes (some ad) c l t0 at_ (at_ + long) _ (HH.out.after HS5.out.below)).mono ?_
      rintro e W6 ⟨rfl, hb⟩
      have HS6 := Lib.hid (HS5.out.after hb)
      clear hb HS5
      by_cases hE : 2199023255552 < at_ + long
      · have HSp := Lib.hid (show spanE t0 at_ (at_ + long) = 1 by unfold spanE; rw [if_pos (by omega)])
        have HDN := Lib.hid (show durN nodes l t0 at_ (at_ + long) = emptyS by unfold durN; rw [HSp.out, if_neg (by decide)])
        rw [HSp.out, HDN.out]
        have HN := Lib.hid (EarlP.none (nodes := nodes) (l := l) (of := of) HNb.out (fun t h1 h2 => by
          rcases Int.lt_or_le t at_ with h3 | h3
          · exact HBf.out t h1 (fun _ => by rw [← HXX.out, ← HAT.out]; exact h3) h2
          · have := h2.1; omega))
        go_wp2_with (first
          | (have hq := HS6; clear hq; (with_reducible refine atAlloc ?_); refine wpList_alloc_b rfl (some 15) rfl 24 z4P (by kernel_rfl) ?_; intro g3 W7 hb hB hg; have HS7 := Lib.hid (HS6.out.new hb hB hg); clear hb hB hg HS6)
          | (have hq := HS7; clear hq; (with_reducible refine atStore ?_); refine wpList_store_at rfl 24 _ _ rfl (HS7.out.at_ 2 rfl) (nsV emptyS) rfl rfl (by kernel_rfl) (Nat.le_of_ble_eq_true rfl) (by kernel_rfl) ?_; intro W8 hB hP; have HS8 := Lib.hid (HS7.out.put 2 rfl (new := nsA emptyS) hB hP); clear hB hP HS7)
          | (have hq := HS8; clear hq; (with_reducible refine atStore ?_); refine wpList_store_at rfl 24 _ _ rfl (HS8.out.at_ 1 rfl) (.agg z4P) rfl rfl (by kernel_rfl) (Nat.le_of_ble_eq_true rfl) (by kernel_rfl) ?_; intro W9 hB hP; have HS9 := Lib.hid (HS8.out.put 1 rfl (new := z4P) hB hP); clear hB hP HS8))
        exact post_tmp_cell_tmp (x := .int .i64 9) (y := .int .i64 0) rfl rfl rfl rfl (HS9.out.at_ 1 rfl) Tryd.underlying24 rfl (by kernel_rfl) rfl ⟨HN.out, HS9.out.below⟩
      · have HSp := Lib.hid (show spanE t0 at_ (at_ + long) = 0 by unfold spanE; rw [if_neg (by omega)])
        have HDN := Lib.hid (show durN nodes l t0 at_ (at_ + long) = durS nodes l at_ (at_ + long) by unfold durN; rw [HSp.out, if_pos rfl])
        rw [HSp.out, HDN.out]
        have HWi := Lib.hid (will_iff (nodes := nodes) (l := l) (n := n) (long := long) (t := at_) (of := of) (by omega) HQ.out.1)
        obtain ⟨D, hD⟩ : ∃ D, D = durS nodes l at_ (at_ + long) := ⟨_, rfl⟩
        rw [← hD] at HWi ⊢
        have HD := Lib.hid hD
        clear hD
        go_wp2_with (first
          | (have hq := HS6; clear hq; (with_reducible refine atAlloc ?_); refine wpList_alloc_b rfl (some 15) rfl 24 z4P (by kernel_rfl) ?_; intro g3 W7 hb hB hg; have HS7 := Lib.hid (HS6.out.new hb hB hg); clear hb hB hg HS6)
          | (have hq := HS7; clear hq; (with_reducible refine atStore ?_); refine wpList_store_at rfl 24 _ _ rfl (HS7.out.at_ 2 rfl) (nsV D) rfl rfl (by kernel_rfl) (Nat.le_of_ble_eq_true rfl) (by kernel_rfl) ?_; intro W8 hB hP; have HS8 := Lib.hid (HS7.out.put 2 rfl (new := nsA D) hB hP); clear hB hP HS7)
          | (have hq := HS8; clear hq; (with_reducible refine atLoad ?_); refine wpList_load_at rfl 24 _ rfl (HS8.out.at_ 2 rfl) 4 (nsV D) rfl _ Tryd.underlying24 rfl (by kernel_rfl) (Nat.le_of_ble_eq_true rfl) rfl ?_)
          | (have hq := HS8; clear hq; (with_reducible refine atLoad ?_); refine wpList_load_at rfl 24 _ rfl (HS8.out.at_ 0 rfl) 4 (nsV of) rfl _ Tryd.underlying24 rfl (by kernel_rfl) (Nat.le_of_ble_eq_true rfl) rfl ?_))
        refine (and_c _ _ _).mono ?_
        rintro e W9 ⟨rfl, hb⟩
        have HS9 := Lib.hid (HS8.out.after hb)
        clear hb HS8
        go_wp2_with fail
        refine (first_c _ n _ (HTab.out.after HS9.out.below)).mono ?_
        rintro e W10 ⟨rfl, hb⟩
        have HS10 := Lib.hid (HS9.out.after hb)
        clear hb HS9
        obtain ⟨F, hF⟩ : ∃ F, F = firstS (D &&& of) n := ⟨_, rfl⟩
        have HF := Lib.hid hF
        rw [← hF]
        clear hF
        by_cases hok : firstOk (D &&& of) n = true
        · rw [hok]
          have HE := Lib.hid (show EarlAt nodes l n long lo of at_ from ⟨HAL.out.1, HWi.out.2 hok, fun u h1 h2 => HBf.out u h1 (fun _ => by rw [← HXX.out, ← HAT.out]; exact h2)⟩)
          have HR := EarlP.some (t0 := t0) HNb.out at_ HE.out
          rw [← HD.out, ← HF.out] at HR
          have HR2 := Lib.hid HR
          clear HR
          go_wp2_with (first
            | (have hq := HS10; clear hq; (with_reducible refine atAlloc ?_); refine wpList_alloc_b rfl (some 17) rfl 24 z4P (by kernel_rfl) ?_; intro g4 W11 hb hB hg; have HS11 := Lib.hid (HS10.out.new hb hB hg); clear hb hB hg HS10)
            | (have hq := HS11; clear hq; (with_reducible refine atStore ?_); refine wpList_store_at rfl 24 _ _ rfl (HS11.out.at_ 3 rfl) (nsV F) rfl rfl (by kernel_rfl) (Nat.le_of_ble_eq_true rfl) (by kernel_rfl) ?_; intro W12 hB hP; have HS12 := Lib.hid (HS11.out.put 3 rfl (new := nsA F) hB hP); clear hB hP HS11))
          refine region_bt 3 (Ms w noB _) (by kernel_rfl) (by kernel_rfl) HS12.out ?_
          clear HS12
          intro W13 hS
          have HS13 := Lib.hid hS
          clear hS
          simp only [List.take_succ_cons, List.take_zero, List.drop_succ_cons, List.drop_zero]
          repeat (first
            | (refine wpQuiet_load_b (by kernel_rfl) 24 _ rfl (HS13.out.at_ 3 rfl) 4 (nsV F) rfl _ Tryd.underlying24 rfl (by kernel_rfl) (Nat.le_of_ble_eq_true rfl) rfl ?_)
            | go_big_quiet_step (fail) | quiet_step (fail))
          refine wpQuiet_nil ?_
          intro W14 hb
          have HS14 := Lib.hid (HS13.out.after hb)
          clear hb HS13
          go_wp2_with (have hq := HS14; clear hq; (with_reducible refine atStore ?_); refine wpList_store_at rfl 24 _ _ rfl (HS14.out.at_ 1 rfl) (nsV F) rfl rfl (by kernel_rfl) (Nat.le_of_ble_eq_true rfl) (by kernel_rfl) ?_; intro W15 hB hP; have HS15 := Lib.hid (HS14.out.put 1 rfl (new := nsA F) hB hP); clear hB hP HS14)
          exact post_tmp_cell_tmp (x := .int .i64 0) (y := .int .i64 at_) rfl rfl rfl rfl (HS15.out.at_ 1 rfl) Tryd.underlying24 rfl (by kernel_rfl) rfl ⟨HR2.out, HS15.out.below⟩
        · have hok2 : firstOk (D &&& of) n = false := by simpa using hok
          rw [hok2]
          have HNW := Lib.hid (show ¬ Will nodes l 2199023255552 n long of at_ from fun h => hok (HWi.out.1 h))
          go_wp2_with (first
            | (have hq := HS10; clear hq; (with_reducible refine atAlloc ?_); refine wpList_alloc_b rfl (some 17) rfl 24 z4P (by kernel_rfl) ?_; intro g4 W11 hb hB hg; have HS11 := Lib.hid (HS10.out.new hb hB hg); clear hb hB hg HS10)
            | (have hq := HS11; clear hq; (with_reducible refine atStore ?_); refine wpList_store_at rfl 24 _ _ rfl (HS11.out.at_ 3 rfl) (nsV F) rfl rfl (by kernel_rfl) (Nat.le_of_ble_eq_true rfl) (by kernel_rfl) ?_; intro W12 hB hP; have HS12 := Lib.hid (HS11.out.put 3 rfl (new := nsA F) hB hP); clear hB hP HS11))
          refine ⟨⟨k + 1, by omega, by omega, by go_num, Lib.hid ?_, ?_⟩, by simp [intOf]; omega⟩
          · exact earl_next HH.out.prf HQ.out.2.2.2.2.1 (by have := HQ.out.2.2.1; omega) HI0.out hik hlt (by rw [← HXX.out, ← HAT.out]; exact HNW.out) (fun t h1 h2 => HBf.out t h1 (fun _ => h2))
          · exact Lib.hid (Ms.cut (l := [.blk g1 24 (nsA of), .blk g2 24 z4P]) (k := [.blk g3 24 _, .blk g4 24 _]) HS12.out)
    · obtain rfl : k = l.length := by omega
      have HN := Lib.hid (EarlP.none (nodes := nodes) (l := l) (of := of) HNb.out (fun t h1 => HBf.out t h1 (fun h => absurd h hlt)))
      go_wp2_with (have hq := HS5; clear hq; (with_reducible refine atStore ?_); refine wpList_store_at rfl 24 _ _ rfl (HS5.out.at_ 1 rfl) (.agg z4P) rfl rfl (by kernel_rfl) (Nat.le_of_ble_eq_true rfl) (by kernel_rfl) ?_; intro W9 hB hP; have HS9 := Lib.hid (HS5.out.put 1 rfl (new := z4P) hB hP); clear hB hP HS5 r1 r2 r3)
      exact post_tmp_cell_tmp (x := .int .i64 9) (y := .int .i64 0) rfl rfl rfl rfl (HS9.out.at_ 1 rfl) Tryd.underlying24 rfl (by kernel_rfl) rfl ⟨HN.out, HS9.out.below⟩
theorem earliest_c (g : Nat) (nodes : NS) (A : Option Addr) (c : Nat) (l : List (Sp NS)) (t0 n long lo : Int) (of : NS) (w : World) (h : PfOk w g nodes A c l t0) (hT : TabW w) :
    Calls Tryd.prog 44 #[.pointer (some ⟨g, 0, none⟩), .int .i64 n, .int .i64 long, .int .i64 lo, nsV of] w fun e w' => EarlP nodes l t0 n long lo of e ∧ Below w.heap.size w w' := by
  by_cases hb : badAsk t0 n long lo
  · exact earliest_no g nodes A c l t0 n long lo of w h hb
  · exact earliest_yes g nodes A c l t0 n long lo of w h hT hb
end Go.Proofs.YtkgphbjneaagoaaDoor
