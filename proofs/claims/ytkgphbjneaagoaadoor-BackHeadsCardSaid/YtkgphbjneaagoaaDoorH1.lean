/- Back: the document's profile: New, span, taken. -/
import Derived.Test.YtkgphbjneaagoaaDoorH0
import Derived.Test.YtkgphbjneaagoaaDoorGt
set_option linter.unusedVariables false
set_option maxRecDepth 100000
namespace Go.Proofs.YtkgphbjneaagoaaDoor
open Go.RowKit Go.Sort

abbrev snC (s : Sn) : List Value := [.int .i64 s.node, .int .i64 s.lo, .int .i64 s.hi]
abbrev dpA (up : NS) (first : Int) (A : Option Addr) (n c : Nat) : Array Value := #[.int .u64 (wn up 0 : Nat), .int .u64 (wn up 1 : Nat), .int .u64 (wn up 2 : Nat), .int .u64 (wn up 3 : Nat), .int .i64 first, .slice A n c]
abbrev RdSn := RdS 3 snC
/-- The state that holds a block of old memory, which has not turned. -/
theorem Ms.still {w W : World} {p : Nat} {t : TypeId} {cs : Array Value} {L : List Own} (h : Ms w (Own.blk p t cs).bl (.blk p t cs :: L) W) (hB : Blk w p t cs) : Below w.heap.size w W := by
  refine ⟨h.turn.os, h.turn.tape, h.turn.output, h.turn.size, fun k hk => ?_⟩
  by_cases e : k = p
  · subst e
    have h1 : Blk W k t cs := h.ok 0 _ rfl
    exact h1.trans hB.symm
  · exact h.turn.block k hk e
/-- A profile as it is read. -/
structure DpR (w : World) (p : Nat) (up : NS) (first : Int) (A : Option Addr) (n c : Nat) (sp : List Sn) : Prop where
  blk : Blk w p 80 (dpA up first A n c)
  rd : RdSn w A n sp
  len : n ≤ 2000
  lo : 0 ≤ first ∧ first ≤ 1099511627776
  hi : ∀ s ∈ sp, s.lo ≤ 2199023255552 ∧ s.hi ≤ 2199023255552 ∧ first ≤ s.lo
theorem DpR.below {w w' : World} {p : Nat} {up : NS} {first : Int} {A : Option Addr} {n c : Nat} {sp : List Sn} (h : DpR w p up first A n c sp) (hb : Below w.heap.size w w') : DpR w' p up first A n c sp := ⟨h.blk.after hb, h.rd.below hb, h.len, h.lo, h.hi⟩
theorem add_some (a : Addr) {k : Nat} (hk : 0 < k) : a.add k = ⟨a.block, a.off + k, none⟩ := by unfold Addr.add; rw [if_neg (by omega)]
theorem Ms.below_p {w W : World} {p : Nat} {t : TypeId} {cs : Array Value} {L : List Own} (h : Ms w (Own.blk p t cs).bl (.blk p t cs :: L) W) (hB : Blk w p t cs) : Below w.heap.size w W := h.still hB
set_option maxHeartbeats 4000000 in
theorem dnew_c (up : NS) (now : Int) (w : World) (h0 : 0 ≤ now) (h1 : now ≤ 1099511627776) : Calls Tryd.prog 45 #[nsV up, .int .i64 now] w fun e w' => e = .returned (.tuple #[.agg (dpA up now none 0 0), .int .i64 0]) ∧ Below w.heap.size w w' := by
  go_enter Tryd.func45, Tryd.ntmps45
  have HS0 := Lib.hid (Ms.nil w noB)
  go_wp2_with (first
    | (have hq := HS0; clear hq; (with_reducible refine atBox ?_); refine wpList_alloc_b rfl (some 2) rfl 24 ((nsA up)) (by kernel_rfl) ?_; intro g1 W1 hb hB hg; have HS1 := Lib.hid (HS0.out.new hb hB hg); clear hb hB hg HS0)
    | (have hq := HS1; clear hq; (with_reducible refine atAlloc ?_); refine wpList_alloc_b rfl (some 4) rfl 80 (#[.int .u64 0, .int .u64 0, .int .u64 0, .int .u64 0, .int .i64 0, .slice none 0 0]) (by kernel_rfl) ?_; intro g2 W2 hb hB hg; have HS2 := Lib.hid (HS1.out.new hb hB hg); clear hb hB hg HS1)
    | (have hq := HS2; clear hq; (with_reducible refine atLoad ?_); refine wpList_load_at rfl 24 _ rfl (HS2.out.at_ 0 rfl) 4 (nsV up) rfl _ Tryd.underlying24 rfl (by kernel_rfl) (Nat.le_of_ble_eq_true rfl) rfl ?_)
    | (have hq := HS2; clear hq; (with_reducible refine atStore ?_); refine wpList_store_at rfl 80 _ _ rfl (HS2.out.at_ 1 rfl) (.agg #[.int .u64 (wn up 0 : Nat), .int .u64 (wn up 1 : Nat), .int .u64 (wn up 2 : Nat), .int .u64 (wn up 3 : Nat), .int .i64 now, .slice none 0 0]) rfl rfl (by kernel_rfl) (Nat.le_of_ble_eq_true rfl) (by kernel_rfl) ?_; intro W3 hB hP; have HS3 := Lib.hid (HS2.out.put 1 rfl (new := #[.int .u64 (wn up 0 : Nat), .int .u64 (wn up 1 : Nat), .int .u64 (wn up 2 : Nat), .int .u64 (wn up 3 : Nat), .int .i64 now, .slice none 0 0]) hB hP); clear hB hP HS2))
  exact post_cell_tmp (x := .int .i64 0) rfl rfl rfl (HS3.out.at_ 1 rfl) Tryd.underlying80 rfl (by kernel_rfl) rfl ⟨rfl, HS3.out.below⟩
set_option maxHeartbeats 4000000 in
theorem dspan_c (p : Nat) (up : NS) (first : Int) (A : Option Addr) (n c : Nat) (sp : List Sn) (lo hi : Int) (w : World) (hD : DpR w p up first A n c sp) (h0 : first ≤ lo) (h1 : lo < hi) (h2 : hi ≤ 2199023255552) :
    Calls Tryd.prog 47 #[.pointer (some ⟨p, 0, none⟩), .int .i64 lo, .int .i64 hi] w fun e w' => e = .returned (.bool true) ∧ Below w.heap.size w w' := by
  have HP := Lib.hid hD.blk
  have HR := Lib.hid hD.rd
  have HDD := Lib.hid hD
  have hnI : (n : Int) ≤ 2000 := by have := hD.len; omega
  have hf0 := hD.lo.1
  have hf1 := hD.lo.2
  clear hD
  go_enter Tryd.func47, Tryd.ntmps47
  have HS0 := Lib.hid (Ms.start (o := Own.blk p 80 (dpA up first A n c)) HP.out)
  obtain ⟨r0a, r0b, r0c⟩ := HS0.out.rules 0 rfl
  go_wp2_with fail
  go_ret
  exact ⟨rfl, HS0.out.still HP.out⟩
theorem hit_no {s : Sn} {b t : Int} (h : ¬ (s.node = b ∧ s.lo ≤ t ∧ t < s.hi)) : hitB s b t = false := by
  cases h9 : hitB s b t
  · rfl
  · exact absurd (hit_iff.1 h9) h
theorem taken_none {sp : List Sn} {k : Nat} {s : Sn} (hs : sp[k]? = some s) {b t : Int} (h : takenB (sp.take k) b t = false) (h2 : hitB s b t = false) : takenB (sp.take (k + 1)) b t = false := by
  unfold takenB at h ⊢
  rw [take_one hs, List.any_append, h]
  simpa using h2
theorem taken_some {sp : List Sn} {k : Nat} {s : Sn} (hs : sp[k]? = some s) {b t : Int} (h : hitB s b t = true) : takenB sp b t = true := List.any_eq_true.2 ⟨s, List.mem_of_getElem? hs, h⟩
set_option maxHeartbeats 16000000 in
theorem dtaken_c (p : Nat) (up : NS) (first : Int) (A : Option Addr) (n c : Nat) (sp : List Sn) (b t : Int) (w : World) (hD : DpR w p up first A n c sp) :
    Calls Tryd.prog 72 #[.pointer (some ⟨p, 0, none⟩), .int .i64 b, .int .i64 t] w fun e w' => e = .returned (.bool (takenB sp b t)) ∧ Below w.heap.size w w' := by
  have HP := Lib.hid hD.blk
  have HR := Lib.hid hD.rd
  have HDD := Lib.hid hD
  have hnI : (n : Int) ≤ 2000 := by have := hD.len; omega
  have hf0 := hD.lo.1
  have hf1 := hD.lo.2
  clear hD
  obtain ⟨r, hr⟩ : ∃ r, r = takenB sp b t := ⟨_, rfl⟩
  have HTK := Lib.hid hr
  rw [← hr]
  clear hr
  go_enter Tryd.func72, Tryd.ntmps72
  have HS0 := Lib.hid (Ms.start (o := Own.blk p 80 (dpA up first A n c)) HP.out)
  go_wp2_with fail
  go_loopw [7] (fun k wr => ∃ kk : Nat, kk ≤ n ∧ k = .int .i64 (kk : Nat) ∧ Hid (takenB (sp.take kk) b t = false) ∧ Hid (Ms w (Own.blk p 80 (dpA up first A n c)).bl [(.blk p 80 (dpA up first A n c))] wr)) (fun k _ => n - (intOf k).toNat)
  case atStart => exact ⟨0, by omega, rfl, Lib.hid rfl, HS0⟩
  case round =>
    obtain ⟨k, hkn, rfl, HTF, HS1⟩ := hrel
    by_cases hlt : k < n
    · have hltI : (k : Int) < (n : Int) := by omega
      obtain ⟨ad, s, hAe, hs, hc⟩ := (HR.out.below (HS1.out.still HP.out)).at_ hlt
      subst hAe
      have e0 := hc 0 _ rfl
      have e1 := hc 1 _ rfl
      have e2 := hc 2 _ rfl
      rw [Addr.add_zero'] at e0
      rw [add_some _ (by omega)] at e1 e2
      have HSS := Lib.hid hs
      clear hc hs
      by_cases c1 : s.node = b
      · by_cases c2 : s.lo ≤ t
        · by_cases c3 : t < s.hi
          · have HB := Lib.hid (taken_some HSS.out (hit_iff.2 ⟨c1, c2, c3⟩))
            have hrt : r = true := by rw [HTK.out]; exact HB.out
            subst hrt
            have c1b : (s.node == b) = true := beq_iff_eq.2 c1
            clear c1
            obtain ⟨r0a, r0b, r0c⟩ := HS1.out.rules 0 rfl
            go_wp2_with fail
            go_ret
            exact ⟨rfl, HS1.out.still HP.out⟩
          · have c3n : s.hi ≤ t := by omega
            have c1b : (s.node == b) = true := beq_iff_eq.2 c1
            have HN := Lib.hid (taken_none HSS.out HTF.out (hit_no (by omega)))
            clear c1
            obtain ⟨r0a, r0b, r0c⟩ := HS1.out.rules 0 rfl
            go_wp2_with fail
            exact ⟨⟨k + 1, by omega, by go_num, HN, HS1⟩, by simp [intOf]; omega⟩
        · have c2n : t < s.lo := by omega
          have c1b : (s.node == b) = true := beq_iff_eq.2 c1
          have HN := Lib.hid (taken_none HSS.out HTF.out (hit_no (by omega)))
          clear c1
          obtain ⟨r0a, r0b, r0c⟩ := HS1.out.rules 0 rfl
          go_wp2_with fail
          exact ⟨⟨k + 1, by omega, by go_num, HN, HS1⟩, by simp [intOf]; omega⟩
      · have c1b : (s.node == b) = false := beq_false_of_ne c1
        have HN := Lib.hid (taken_none HSS.out HTF.out (hit_no (by omega)))
        obtain ⟨r0a, r0b, r0c⟩ := HS1.out.rules 0 rfl
        go_wp2_with fail
        exact ⟨⟨k + 1, by omega, by go_num, HN, HS1⟩, by simp [intOf]; omega⟩
    · obtain rfl : k = n := by omega
      have hrf : r = false := by
        rw [HTK.out]
        have h := HTF.out
        rwa [List.take_of_length_le (by rw [HR.out.1]; exact Nat.le_refl _)] at h
      subst hrf
      obtain ⟨r0a, r0b, r0c⟩ := HS1.out.rules 0 rfl
      go_wp2_with fail
      go_ret
      exact ⟨rfl, HS1.out.still HP.out⟩
end Go.Proofs.YtkgphbjneaagoaaDoor
