/- Prof: append of whole values; put. -/
import Derived.Test.YtkgphbjneaagoaaDoorF8
import Derived.Outline
import Derived.BigQuiet
import Derived.Deep.QuietTactic
set_option linter.unusedVariables false
namespace Go.Proofs.YtkgphbjneaagoaaDoor
open Go.RowKit Go.Sort

theorem eqNs_run (s t : NS) (w : World) : (Op.equalIn 10000 24 (nsV s) (nsV t)).run Tryd.prog w = .ok (decide (s = t)) w := by
  rw [← eq_words]
  exact eq_arr _ _ _ _ _ _ _ _ w
theorem info_step : (Tryd.prog.info? 113).map (fun i => (i.zero, i.size, i.bytes)) = some (some (.agg z5P), 5, 40) := by kernel_rfl
/-- 'out': its block, and its steps in a row. -/
def Own.out (b : Nat) (A : Option Addr) (c : Nat) (l : List (Sp NS)) : Own where
  bl k := k = b ∨ (slP A c l).ownBlock = some k
  ok W := (Own.blk b 114 #[slP A c l]).ok W ∧ (rowP A c l).ok W ∧ (slP A c l).ownBlock ≠ some b
  lt W h k hk := hk.elim (fun h1 => (Own.blk b 114 #[slP A c l]).lt W h.1 k h1) (fun h1 => (rowP A c l).lt W h.2.1 k h1)
  keep W W' hk h := ⟨(Own.blk b 114 #[slP A c l]).keep W W' (fun k h1 => hk k (.inl h1)) h.1, (rowP A c l).keep W W' (fun k h1 => hk k (.inr h1)) h.2.1, h.2.2⟩
theorem Ms.outOf {w W : World} {ex : Nat → Prop} {l : List Own} {b : Nat} {A : Option Addr} {c : Nat} {s : List (Sp NS)} (h : Ms w ex l W) (i j : Nat) (hi : l[i]? = some (.blk b 114 #[slP A c s])) (hj : l[j]? = some (rowP A c s)) (hij : i ≠ j) : Ms w ex [.out b A c s] W := by
  have h2 := h.pick (fun k => if k = 0 then i else j) [.blk b 114 #[slP A c s], rowP A c s] (fun k o hk => by
    match k, hk with
    | 0, hk => simp at hk; subst hk; simpa using hi
    | 1, hk => simp at hk; subst hk; simpa using hj
    | k + 2, hk => simp at hk) (fun a b ha hb he => by
    simp only [List.length_cons, List.length_nil] at ha hb
    by_cases ha0 : a = 0 <;> by_cases hb0 : b = 0 <;> simp [ha0, hb0] at he <;> omega)
  exact h2.join (fun h1 h3 => ⟨h1, h3, fun e => h2.apart 0 1 _ _ rfl rfl (by decide) b rfl e⟩) (fun k hk => hk)
theorem Ms.ofOut {w : World} {b : Nat} {A : Option Addr} {c : Nat} {s : List (Sp NS)} (h : (Own.out b A c s).ok w) : Ms w (Own.out b A c s).bl [.blk b 114 #[slP A c s], rowP A c s] w :=
  Ms.start2 (a := .blk b 114 #[slP A c s]) (b := rowP A c s) h.1 h.2.1 (fun k hk hk2 => h.2.2 (by have e : k = b := hk; rw [← e]; exact hk2))
/-- What put leaves. -/
def PutPost (w : World) (b : Nat) (A : Option Addr) (c : Nat) (l l' : List (Sp NS)) (e : Ending) (W : World) : Prop := e = .returned (.tuple #[]) ∧ ∃ A' c', Ms w (Own.out b A c l).bl [.out b A' c' l'] W
theorem spC_snoc (l : List (Sp NS)) (x : Sp NS) : spC l ++ spL x = spC (l ++ [x]) := by rw [spC_append, spC_one]
theorem slP_snoc (A : Option Addr) (c : Nat) (l : List (Sp NS)) (x : Sp NS) : Value.slice A (l.length + 1) c = slP A c (l ++ [x]) := by simp [slP]
set_option maxRecDepth 100000 in
set_option maxHeartbeats 8000000 in
theorem put_nil (b : Nat) (A : Option Addr) (c : Nat) (at_ : Int) (f : NS) (w : World) (h : (Own.out b A c []).ok w) :
    Calls Tryd.prog 67 #[.int .i64 at_, nsV f, .pointer (some ⟨b, 0, none⟩)] w (PutPost w b A c [] [⟨at_, f⟩]) := by
  have HS0 := Lib.hid (Ms.ofOut h)
  clear h
  go_enter Tryd.func67, Tryd.ntmps67
  go_wp2_with (have hq := HS0; clear hq; refine wpList_alloc_b rfl (some 4) rfl 24 (nsA f) (by kernel_rfl) ?_; intro g1 W1 hb hB hg; have HS1 := Lib.hid (HS0.out.new hb hB hg); clear hb hB hg HS0; obtain ⟨r1, r2, r3⟩ := HS1.out.rules 0 rfl)
  go_quiet (fail)
  have HS2 := Lib.hid (HS1.out.drewN nq)
  clear HS1 r1 r2 r3
  obtain ⟨r1, r2, r3⟩ := HS2.out.rules 0 rfl
  go_wp2_with (first
    | (have hq := HS2; clear hq; refine wpList_load_at rfl 24 _ rfl (HS2.out.at_ 2 rfl) 4 (nsV f) rfl _ Tryd.underlying24 rfl (by kernel_rfl) (Nat.le_of_ble_eq_true rfl) rfl ?_)
    | (have hq := HS2; clear hq; refine wpList_build_b rfl (some 42) rfl 113 1 (spA ⟨at_, f⟩) (by kernel_rfl) ?_; intro g2 W2 hb hB hg; have HS3 := Lib.hid (HS2.out.new hb hB hg); clear hb hB hg HS2)
    | (have hq := HS3; clear hq; refine append_row HS3.out 1 3 rfl _ _ 114 113 5 40 (.agg z5P) rfl Tryd.underlying114 info_step rfl (by decide) (slP A c []) 0 1 (spC []) (spL ⟨at_, f⟩) g2 _ _ rfl rfl rfl rfl rfl rfl rfl (by decide) (by decide) 1 _ rfl rfl ?_; intro A' c' W4 hM; have HS4 := Lib.hid hM; clear hM HS3)
    | (have hq := HS4; clear hq; refine wpList_store_at rfl 114 _ _ rfl (HS4.out.at_ 0 rfl) (.slice A' 1 c') rfl rfl (by kernel_rfl) (Nat.le_of_ble_eq_true rfl) (by kernel_rfl) ?_; intro W5 hB hP; have HS5 := Lib.hid (HS4.out.put 0 rfl (new := #[.slice A' 1 c']) hB hP); clear hB hP HS4))
  go_end0
  exact ⟨rfl, A', c', HS5.out.outOf 0 1 rfl rfl (by decide)⟩
theorem row_spot {w : World} {A : Option Addr} {c : Nat} {l : List (Sp NS)} (h : (rowP A c l).ok w) (ad : Addr) (hA : A = some ad) (hp : 0 < l.length) : ad.spot = none := by
  obtain ⟨b, cap, e, _⟩ := World.ownsRow.form (h : w.ownsRow 0 113 5 (slP A c l) l.length (spC l)) hp
  injection e with e1
  rw [hA] at e1
  injection e1 with e1
  rw [e1]
set_option maxRecDepth 100000 in
set_option maxHeartbeats 8000000 in
theorem put_same (b : Nat) (A : Option Addr) (c : Nat) (l : List (Sp NS)) (m : Nat) (hm : l.length = m + 1) (hl : l.length ≤ 1048576) (at_ : Int) (w : World) (h : (Own.out b A c l).ok w) (hat : (stp emptyS l m).at_ < at_) :
    Calls Tryd.prog 67 #[.int .i64 at_, nsV (stp emptyS l m).free, .pointer (some ⟨b, 0, none⟩)] w (PutPost w b A c l l) := by
  have HEQ := Lib.hid (fun w9 => show (Op.equalIn 10000 24 (nsV (stp emptyS l m).free) (nsV (stp emptyS l m).free)).run Tryd.prog w9 = .ok true w9 by rw [eqNs_run]; simp)
  have HS0 := Lib.hid (Ms.ofOut h)
  have HR := Lib.hid (rowP_read h.2.1 hl)
  obtain ⟨ad, hA, -⟩ := HR.out.2.2 (by omega)
  have HAP := Lib.hid (row_spot h.2.1 ad hA (by omega))
  subst hA
  have hmL' : m < l.length := by omega
  have HL := Lib.hid hl
  have HC := Lib.hid (show w.cell? (ad.add (m * 5)) = some (.int .i64 (stp emptyS l m).at_) from HR.out.at_ (i := m) hmL' 0 _ rfl)
  obtain ⟨s, hs⟩ : ∃ s, s = stp emptyS l m := ⟨_, rfl⟩
  have HSS := Lib.hid hs
  rw [← hs] at HC hat HEQ ⊢
  have hmI : (l.length : Int) - 1 = (m : Int) := by omega
  have hm0 : (0 : Int) < (l.length : Int) := by omega
  have hm1 : ((l.length : Int) == 0) = false := beq_false_of_ne (by omega)
  have hlI : (l.length : Int) ≤ 1048576 := by omega
  have hmL : (m : Int) < (l.length : Int) := by omega
  have hne : ¬ s.at_ = at_ := by omega
  have hwm : IntKind.i64.wrap (m : Int) = (m : Int) := by rw [IntKind.wrap_i64]; omega
  clear h hs HR hl hm
  go_enter Tryd.func67, Tryd.ntmps67
  go_wp2_with (have hq := HS0; clear hq; refine wpList_alloc_b rfl (some 4) rfl 24 (nsA s.free) (by kernel_rfl) ?_; intro g1 W1 hb hB hg; have HS1 := Lib.hid (HS0.out.new hb hB hg); have hcell : W1.cell? (ad.add (m * 5)) = some (.int .i64 s.at_) := (hb.cell (block_lt_of_cell HC.out)).trans HC.out; clear hb hB hg HS0 HC; obtain ⟨r1, r2, r3⟩ := HS1.out.rules 0 rfl)
  clear hcell r1 r2 r3
  refine region_b (Ms w _ _) (by kernel_rfl) (by kernel_rfl) HS1.out ?_
  clear HS1
  intro W4 hS
  have q0 := hS.on 0 rfl
  have HC4 := Lib.hid (ReadsP.free (rowP_read (hS.ok 1 _ rfl) HL.out) HAP.out hmL')
  have HS4 := Lib.hid hS
  rw [← HSS.out] at HC4
  clear hS
  repeat (first
    | (refine wpQuiet_load_ad (by kernel_rfl) 24 _ rfl ((ad.add (m * 5)).add 1) (nsL s.free) (by simp) HC4.out rfl _ (nsV s.free) rfl Tryd.underlying24 rfl (by kernel_rfl) ?_)
    | (refine wpQuiet_load_b (by kernel_rfl) 24 _ rfl (HS4.out.at_ 2 rfl) 4 (nsV s.free) rfl _ Tryd.underlying24 rfl (by kernel_rfl) (Nat.le_of_ble_eq_true rfl) rfl ?_)
    | (refine wpQuiet_neq (by kernel_rfl) 24 _ _ _ rfl rfl rfl (by kernel_rfl) true (fun w9 => HEQ.out w9) ?_)
    | go_big_quiet_step (fail) | quiet_step (fail))
  refine wpQuiet_nil ?_
  intro W5 hb
  have HS5 := Lib.hid (HS4.out.after hb)
  clear hb HS4 q0 HC4
  go_wp2_with fail
  go_end0
  exact ⟨rfl, some ad, c, HS5.out.outOf 0 1 rfl rfl (by decide)⟩
set_option maxRecDepth 100000 in
set_option maxHeartbeats 8000000 in
theorem put_new (b : Nat) (A : Option Addr) (c : Nat) (l : List (Sp NS)) (m : Nat) (hm : l.length = m + 1) (hl : l.length ≤ 1048576) (at_ : Int) (f : NS) (w : World) (h : (Own.out b A c l).ok w) (hat : (stp emptyS l m).at_ < at_) (hf : (stp emptyS l m).free ≠ f) :
    Calls Tryd.prog 67 #[.int .i64 at_, nsV f, .pointer (some ⟨b, 0, none⟩)] w (PutPost w b A c l (l ++ [⟨at_, f⟩])) := by
  have HEQ := Lib.hid (fun w9 => show (Op.equalIn 10000 24 (nsV (stp emptyS l m).free) (nsV f)).run Tryd.prog w9 = .ok false w9 by rw [eqNs_run, decide_eq_false hf])
  have HS0 := Lib.hid (Ms.ofOut h)
  have HR := Lib.hid (rowP_read h.2.1 hl)
  obtain ⟨ad, hA, -⟩ := HR.out.2.2 (by omega)
  have HAP := Lib.hid (row_spot h.2.1 ad hA (by omega))
  subst hA
  have hmL' : m < l.length := by omega
  have HL := Lib.hid hl
  have HC := Lib.hid (show w.cell? (ad.add (m * 5)) = some (.int .i64 (stp emptyS l m).at_) from HR.out.at_ (i := m) hmL' 0 _ rfl)
  obtain ⟨s, hs⟩ : ∃ s, s = stp emptyS l m := ⟨_, rfl⟩
  have HSS := Lib.hid hs
  rw [← hs] at HC hat HEQ
  have hmI : (l.length : Int) - 1 = (m : Int) := by omega
  have hm0 : (0 : Int) < (l.length : Int) := by omega
  have hm1 : ((l.length : Int) == 0) = false := beq_false_of_ne (by omega)
  have hlI : (l.length : Int) ≤ 1048576 := by omega
  have hmL : (m : Int) < (l.length : Int) := by omega
  have hne : ¬ s.at_ = at_ := by omega
  have hwm : IntKind.i64.wrap (m : Int) = (m : Int) := by rw [IntKind.wrap_i64]; omega
  clear h hs HR hl hm
  go_enter Tryd.func67, Tryd.ntmps67
  go_wp2_with (have hq := HS0; clear hq; refine wpList_alloc_b rfl (some 4) rfl 24 (nsA f) (by kernel_rfl) ?_; intro g1 W1 hb hB hg; have HS1 := Lib.hid (HS0.out.new hb hB hg); have hcell : W1.cell? (ad.add (m * 5)) = some (.int .i64 s.at_) := (hb.cell (block_lt_of_cell HC.out)).trans HC.out; clear hb hB hg HS0 HC; obtain ⟨r1, r2, r3⟩ := HS1.out.rules 0 rfl)
  clear hcell r1 r2 r3
  refine region_b (Ms w _ _) (by kernel_rfl) (by kernel_rfl) HS1.out ?_
  clear HS1
  intro W4 hS
  have q0 := hS.on 0 rfl
  have HC4 := Lib.hid (ReadsP.free (rowP_read (hS.ok 1 _ rfl) HL.out) HAP.out hmL')
  have HS4 := Lib.hid hS
  rw [← HSS.out] at HC4
  clear hS
  repeat (first
    | (refine wpQuiet_load_ad (by kernel_rfl) 24 _ rfl ((ad.add (m * 5)).add 1) (nsL s.free) (by simp) HC4.out rfl _ (nsV s.free) rfl Tryd.underlying24 rfl (by kernel_rfl) ?_)
    | (refine wpQuiet_load_b (by kernel_rfl) 24 _ rfl (HS4.out.at_ 2 rfl) 4 (nsV f) rfl _ Tryd.underlying24 rfl (by kernel_rfl) (Nat.le_of_ble_eq_true rfl) rfl ?_)
    | (refine wpQuiet_neq (by kernel_rfl) 24 _ _ _ rfl rfl rfl (by kernel_rfl) false (fun w9 => HEQ.out w9) ?_)
    | go_big_quiet_step (fail) | quiet_step (fail))
  refine wpQuiet_nil ?_
  intro W5 hb
  have HS5 := Lib.hid (HS4.out.after hb)
  clear hb HS4 q0 HC4
  obtain ⟨r1, r2, r3⟩ := HS5.out.rules 0 rfl
  have hsz := HL.out
  go_wp2_with (first
    | (have hq := HS5; clear hq; refine wpList_load_at rfl 24 _ rfl (HS5.out.at_ 2 rfl) 4 (nsV f) rfl _ Tryd.underlying24 rfl (by kernel_rfl) (Nat.le_of_ble_eq_true rfl) rfl ?_)
    | (have hq := HS5; clear hq; refine wpList_build_b rfl (some 42) rfl 113 1 (spA ⟨at_, f⟩) (by kernel_rfl) ?_; intro g2 W6 hb hB hg; have HS6 := Lib.hid (HS5.out.new hb hB hg); clear hb hB hg HS5)
    | (have hq := HS6; clear hq; refine append_row HS6.out 1 3 rfl _ _ 114 113 5 40 (.agg z5P) rfl Tryd.underlying114 info_step rfl (by decide) (slP (some ad) c l) l.length 1 (spC l) (spL ⟨at_, f⟩) g2 _ _ rfl rfl rfl rfl rfl rfl rfl (by omega) (by simp only [maxLen]; omega) (l ++ [(⟨at_, f⟩ : Sp NS)]).length (spC (l ++ [(⟨at_, f⟩ : Sp NS)])) (by simp) (spC_snoc l ⟨at_, f⟩) ?_; intro A' c' W7 hM; have HS7 := Lib.hid hM; clear hM HS6)
    | (have hq := HS7; clear hq; refine wpList_store_at rfl 114 _ _ rfl (HS7.out.at_ 0 rfl) (slP A' c' (l ++ [(⟨at_, f⟩ : Sp NS)])) rfl rfl (by kernel_rfl) (Nat.le_of_ble_eq_true rfl) (by kernel_rfl) ?_; intro W8 hB hP; have HS8 := Lib.hid (HS7.out.put 0 rfl (new := #[slP A' c' (l ++ [(⟨at_, f⟩ : Sp NS)])]) hB hP); clear hB hP HS7))
  go_end0
  exact ⟨rfl, A', c', HS8.out.outOf 0 1 rfl rfl (by decide)⟩
theorem put_c (b : Nat) (A : Option Addr) (c : Nat) (l : List (Sp NS)) (hl : l.length ≤ 1048576) (at_ : Int) (f : NS) (w : World) (h : (Own.out b A c l).ok w) (hat : ∀ s ∈ l, s.at_ < at_) :
    Calls Tryd.prog 67 #[.int .i64 at_, nsV f, .pointer (some ⟨b, 0, none⟩)] w (PutPost w b A c l (putP l at_ f)) := by
  rcases List.eq_nil_or_concat l with rfl | ⟨k, x, rfl⟩
  · exact put_nil b A c at_ f w h
  · rw [List.concat_eq_append] at h hl hat ⊢
    have hm : (k ++ [x]).length = k.length + 1 := by simp
    have hx : stp emptyS (k ++ [x]) k.length = x := by simp [stp]
    have hg : (k ++ [x]).getLast? = some x := by simp
    have ha := hat x (by simp)
    by_cases hf : x.free = f
    · have e : putP (k ++ [x]) at_ f = k ++ [x] := by unfold putP; rw [hg]; simp [hf]
      rw [e]
      have := put_same b A c (k ++ [x]) k.length hm hl at_ w h (by rw [hx]; exact ha)
      rw [hx, hf] at this
      exact this
    · have e : putP (k ++ [x]) at_ f = k ++ [x] ++ [⟨at_, f⟩] := by unfold putP; rw [hg]; simp [hf]
      rw [e]
      exact put_new b A c (k ++ [x]) k.length hm hl at_ f w h (by rw [hx]; exact ha) (by rw [hx]; exact hf)
end Go.Proofs.YtkgphbjneaagoaaDoor
