/- The reference's Move; the sets' List. -/
import Derived.Test.YtmhbblkihjmonaaDoorB8
set_option linter.unusedVariables false
namespace Go.Proofs.YtmhbblkihjmonaaDoor
open Go.RowKit

theorem move_ofL (s : NS) (b : Int) : ofL ((lst s).map (· + b)) = moveS s b := ns_ext fun i hi => by
  rw [ofL_bit, moveS_bit, decide_eq_true hi, Bool.true_and, Bool.true_and]
  rw [Bool.eq_iff_iff, decide_eq_true_eq, List.mem_map]
  constructor
  · rintro ⟨x, hx, e⟩
    rw [mem_lst] at hx
    rw [show (i : Int) - b = x by omega]; exact hx
  · intro h
    exact ⟨(i : Int) - b, mem_lst.2 h, by omega⟩
set_option maxHeartbeats 1000000 in
theorem rmove_in (s : NS) (b : Int) (b0 : -256 < b) (b1 : b < 256) (w : World) :
    Calls Tryd.prog 32 #[nsV s, .int .i64 b] w fun e w' => e = .returned (nsV (ofL ((lst s).map (· + b)))) ∧ Below w.heap.size w w' := by
  go_enter Tryd.func32, Tryd.ntmps32
  go_wp2_with fail
  refine (rlist_c s _).mono ?_
  rintro e w1 ⟨v, rfl, hown, hb⟩
  obtain ⟨A, c, hv, hR, hcap⟩ := own_reads hown
  rw [hv] at hown
  rw [hv, lst_length]
  rw [lst_length] at hR hown
  have h2 : Hid (Below w.heap.size w w1) := Lib.hid (below_then ((((Below.refl w.heap.size w).alloc (by simp) _).alloc (by simp) _).alloc (by simp; omega) _) (by simp; omega) hb)
  have h3 : Hid (Blk w1 (w.heap.size + 1) 24 #[.int .u64 0, .int .u64 0, .int .u64 0, .int .u64 0]) := Lib.hid (Blk.after ((Blk.new' (by simp)).alloc _) hb)
  have h4 : Hid (Blk w1 (w.heap.size + 2) 24 #[.int .u64 0, .int .u64 0, .int .u64 0, .int .u64 0]) := Lib.hid (Blk.after (Blk.new' (by simp)) hb)
  have HR : Hid (w1.ownsRow (w.heap.size + 3) 3 1 (.slice A (cnt s) c) (cnt s) (nums (lst s))) := Lib.hid (own_mono hown (by simp))
  have hn := cnt_le s
  clear hv hR hown hb hcap
  go_wp2_with fail
  go_loopw [7] (fun i wr => ∃ k : Nat, k ≤ cnt s ∧ i = .int .i64 k ∧ Blk wr (w.heap.size + 1) 24 #[.int .u64 0, .int .u64 0, .int .u64 0, .int .u64 0] ∧ Blk wr (w.heap.size + 2) 24 (nsA (ofL (((lst s).map (· + b)).take k))) ∧ wr.ownsRow (w.heap.size + 3) 3 1 (.slice A (cnt s) c) (cnt s) (nums (lst s)) ∧ Below w.heap.size w wr) (fun i _ => cnt s - (intOf i).toNat)
  case atStart => exact ⟨0, by omega, rfl, h3.out, by simpa [nsA, ofL_nil, wn_empty] using h4.out, HR.out, h2.out⟩
  case round =>
    clear h2 h3 h4 HR
    obtain ⟨k, hk, rfl, hB0, hB1, hR, hbl⟩ := hrel
    have H0 := Lib.hid hB0; have H1 := Lib.hid hB1; have HL := Lib.hid hbl; have HR := Lib.hid hR
    obtain ⟨r1, r2, r3⟩ := hB0.rules
    obtain ⟨q1, q2, q3⟩ := hB1.rules
    clear hB0 hB1 hbl hR
    by_cases hlt : k < cnt s
    · obtain ⟨ad, rfl, hcell⟩ := (own_readsA HR.out).at_ (Below.refl _ _) hlt
      have hts := take_snoc ((lst s).map (· + b)) k (by rw [List.length_map, lst_length]; exact hlt)
      obtain ⟨x, hxe⟩ : ∃ x, (lst s).getD k 0 = x := ⟨_, rfl⟩
      have hxm : ((lst s).map (· + b)).getD k 0 = x + b := by
        have hl : k < (lst s).length := by rw [lst_length]; exact hlt
        rw [← hxe]; simp [List.getD_eq_getElem?_getD, List.getElem?_eq_getElem hl]
      have hxr : 0 ≤ x ∧ x ≤ 255 := lst_range (s := s) (by
        have hl : k < (lst s).length := by rw [lst_length]; exact hlt
        rw [← hxe, List.getD_eq_getElem?_getD, List.getElem?_eq_getElem hl]; exact List.getElem_mem _)
      rw [hxm] at hts
      rw [hxe] at hcell
      have HT := Lib.hid hts
      have l1 : (k : Int) < (cnt s : Int) := by omega
      have l2 : 0 ≤ (k : Int) := by omega
      obtain ⟨y, hy⟩ : ∃ y, x + b = y := ⟨_, rfl⟩
      rw [hy] at HT
      have hw : IntKind.i64.wrap (x + b) = y := by rw [IntKind.wrap_i64]; omega
      clear hts hxe r1 r2 r3 hxm hy
      go_wp2_with fail
      refine region_tail 7 (by kernel_rfl) (by kernel_rfl) ?_
      simp only [List.take_succ_cons, List.take_zero, List.drop_succ_cons, List.drop_zero]
      repeat still_step
      refine wpStill_nil ?_
      go_wp2_with fail
      refine (with_c _ _ _).mono ?_
      rintro e w2 ⟨rfl, hb⟩
      have HB0 := Lib.hid (H0.out.drew.after hb)
      have HB1 := Lib.hid (H1.out.drew.after hb)
      have HL2 := Lib.hid (below_then HL.out.drew HL.out.size hb)
      have HRR := Lib.hid (own_after (w := wr.drew) HR.out hb)
      obtain ⟨s1, s2, s3⟩ := HB1.out.rules
      clear hb q1 q2 q3
      go_wp2
      go_roundw
      case rel =>
        refine ⟨k + 1, by omega, by go_num, HB0.out.far4 (by omega) _ _ _ _, ?_, ?_, below_four HL2.out (by omega) _ _ _ _⟩
        · rw [HT.out, ofL_snoc]
          exact HB1.out.four _ _ _ _
        · exact own_four HRR.out (by omega) _ _ _ _
      case measure => simp [intOf]; omega
    · obtain rfl : k = cnt s := by omega
      have e4 : ((lst s).map (· + b)).take (cnt s) = (lst s).map (· + b) := by rw [← lst_length, ← List.length_map (f := (· + b))]; exact List.take_length
      rw [e4] at q1 H1
      clear e4
      go_wp2
      exact post_cell rfl rfl (H0.out.four _ _ _ _) Tryd.underlying24 rfl (by kernel_rfl) rfl ⟨rfl, below_four HL.out (by omega) _ _ _ _⟩
theorem rmove_out (s : NS) (b : Int) (hb : b ≤ -256 ∨ 256 ≤ b) (w : World) :
    Calls Tryd.prog 32 #[nsV s, .int .i64 b] w fun e w' => e = .returned (nsV emptyS) ∧ Below w.heap.size w w' := by
  rw [empty_val]
  rcases hb with hb | hb
  all_goals
    go_enter Tryd.func32, Tryd.ntmps32
    go_wp2_with fail
    refine (rlist_c s _).mono ?_
    rintro e w1 ⟨v, rfl, hown, hbb⟩
    obtain ⟨A, c, hv, hR, hcap⟩ := own_reads hown
    rw [hv, lst_length]
    have h2 := below_then ((((Below.refl w.heap.size w).alloc (by simp) (.cells (nsA s) 24)).alloc (by simp) (.cells #[.int .u64 0, .int .u64 0, .int .u64 0, .int .u64 0] 24)).alloc (by simp; omega) (.cells #[.int .u64 0, .int .u64 0, .int .u64 0, .int .u64 0] 24)) (by simp; omega) hbb
    have h3 := Blk.after ((Blk.new' (w := w.alloc (.cells (nsA s) 24)) (g := w.heap.size + 1) (t := 24) (cs := #[.int .u64 0, .int .u64 0, .int .u64 0, .int .u64 0]) (by simp)).alloc _) hbb
    have h4 := Blk.after (Blk.new' (w := (w.alloc (.cells (nsA s) 24)).alloc (.cells #[.int .u64 0, .int .u64 0, .int .u64 0, .int .u64 0] 24)) (g := w.heap.size + 2) (t := 24) (cs := #[.int .u64 0, .int .u64 0, .int .u64 0, .int .u64 0]) (by simp)) hbb
    have H2 := Lib.hid h2; have H3 := Lib.hid h3; have H4 := Lib.hid h4
    obtain ⟨r1, r2, r3⟩ := h3.rules
    obtain ⟨q1, q2, q3⟩ := h4.rules
    have hn := cnt_le s
    clear hv hR hown hbb hcap h2 h3 h4
    go_wp2_with fail
    go_loop [7] (fun i => ∃ k : Nat, k ≤ cnt s ∧ i = .int .i64 k) (fun i => cnt s - (intOf i).toNat)
    case atStart => exact ⟨0, by omega, rfl⟩
    case round =>
      obtain ⟨k, hk, rfl⟩ := hrel
      by_cases hlt : k < cnt s
      · go_wp2_with fail
        go_round
        case rel => exact ⟨k + 1, by omega, by go_num⟩
        case measure => simp [intOf]; omega
      · obtain rfl : k = cnt s := by omega
        go_wp2
        exact post_cell rfl rfl (H3.out.four _ _ _ _) Tryd.underlying24 rfl (by kernel_rfl) rfl ⟨rfl, below_four H2.out (by omega) _ _ _ _⟩
theorem rmove_c (s : NS) (b : Int) (w : World) :
    Calls Tryd.prog 32 #[nsV s, .int .i64 b] w fun e w' => e = .returned (nsV (moveS s b)) ∧ Below w.heap.size w w' := by
  by_cases h : b ≤ -256 ∨ 256 ≤ b
  · rw [move_far s b (by omega)]; exact rmove_out s b h w
  · rw [← move_ofL]; exact rmove_in s b (by omega) (by omega) w

/-! ### List -/
theorem clear_u64 (w : Nat) (h0 : w ≠ 0) (h : w ≤ 18446744073709551615) : bits .and .u64 (w : Int) ((w : Int) - 1) = ((w &&& (w - 1) : Nat) : Int) := by
  rw [show (w : Int) - 1 = ((w - 1 : Nat) : Int) by omega]
  exact and_u64 _ _ h (by omega)
theorem or_i64_add (k t : Nat) (hk : k < 4) (ht : t < 64) : bits .or .i64 ((k : Int) * 64) (t : Int) = ((64 * k + t : Nat) : Int) := by
  have key : ∀ k, k < 4 → ∀ t, t < 64 → (64 * k) ||| t = 64 * k + t := by decide +kernel
  show IntKind.i64.wrap ((BitVec.ofInt 64 ((k : Int) * 64) ||| BitVec.ofInt 64 (t : Int)).toNat : Int) = _
  rw [show (k : Int) * 64 = ((64 * k : Nat) : Int) by omega, BitVec.toNat_or, BitVec.ofInt_natCast, BitVec.ofInt_natCast, BitVec.toNat_ofNat, BitVec.toNat_ofNat, Nat.mod_eq_of_lt (show 64 * k < 2 ^ 64 by omega), Nat.mod_eq_of_lt (show t < 2 ^ 64 by omega), key k hk t ht, IntKind.wrap_i64]
  omega
def ints (l : List Nat) : List Int := l.map Int.ofNat
theorem ints_snoc (l : List Nat) (x : Nat) : ints (l ++ [x]) = ints l ++ [(x : Int)] := by simp [ints]
theorem ints_len_eq (l : List Nat) : (ints l).length = l.length := by simp [ints]
theorem lst_ints (s : NS) : lst s = ints (lstTo s 4) := by rw [lstTo_four]; rfl
/-- The list in the inner loop. -/
def lstIn (s : NS) (k j : Nat) : List Nat := lstTo s k ++ ((wl (wn s k)).take j).map (64 * k + ·)
theorem lstIn_zero (s : NS) (k : Nat) : lstIn s k 0 = lstTo s k := by simp [lstIn]
theorem lstIn_all (s : NS) (k j : Nat) (h : (wl (wn s k)).length ≤ j) : lstIn s k j = lstTo s (k + 1) := by simp [lstIn, lstTo, List.take_of_length_le h]
theorem strike_zero_iff (j : Nat) {w : Nat} (h : w < 2 ^ 64) : strike j w = 0 ↔ (wl w).length ≤ j := by
  have hs := wl_strike j h
  constructor
  · intro e
    rw [e, wl_zero] at hs
    have := congrArg List.length hs
    simp at this; omega
  · intro e
    exact wl_nil (strike_lt j h) (by rw [hs]; exact List.drop_eq_nil_of_le e)
theorem ctz_strike (j : Nat) {w : Nat} (h : w < 2 ^ 64) (h0 : strike j w ≠ 0) : ∃ hj : j < (wl w).length, (wl w)[j] = Lib.ctz 64 (strike j w) := by
  have hj : j < (wl w).length := by
    rcases Nat.lt_or_ge j (wl w).length with h2 | h2
    · exact h2
    · exact absurd ((strike_zero_iff j h).2 h2) h0
  refine ⟨hj, ?_⟩
  have hs := wl_strike j h
  rw [wl_cons h0 (strike_lt j h), List.drop_eq_getElem_cons hj] at hs
  injection hs with h1 _
  exact h1.symm
theorem lstIn_succ (s : NS) (k j : Nat) (h0 : strike j (wn s k) ≠ 0) : lstIn s k (j + 1) = lstIn s k j ++ [64 * k + Lib.ctz 64 (strike j (wn s k))] := by
  obtain ⟨hj, e⟩ := ctz_strike j (wn_lt s k) h0
  unfold lstIn
  rw [List.take_succ_eq_append_getElem hj, e, List.map_append, List.append_assoc]
  rfl
theorem lstIn_len (s : NS) (k j : Nat) : (lstIn s k j).length ≤ 64 * k + 64 := by
  have h1 := lstTo_length s k
  have h2 := wl_length (wn s k)
  simp [lstIn]
  omega

set_option maxHeartbeats 2000000 in
theorem list_c (s : NS) (w : World) (hT : TabW w) :
    Calls Tryd.prog 39 #[nsV s] w fun e w' => ∃ v, e = .returned v ∧ w'.ownsRow w.heap.size 3 1 v (lst s).length (nums (lst s)) ∧ Below w.heap.size w w' := by
  have HT := Lib.hid hT
  have hlt0 := hT.lt
  clear hT
  go_enter Tryd.func39, Tryd.ntmps39
  go_wp2_with fail
  go_loopw [3, 7] (fun l i wr => ∃ k : Nat, k ≤ 4 ∧ i = .int .i64 k ∧ wr.ownsRow (w.heap.size + 1) 3 1 l (ints (lstTo s k)).length (nums (ints (lstTo s k))) ∧ Below w.heap.size w wr ∧ w.heap.size + 1 ≤ wr.heap.size) (fun _ i _ => 4 - (intOf i).toNat)
  case atStart => exact ⟨0, by omega, rfl, own_nil _ _ _ _, (Below.refl _ _).alloc (Nat.le_refl _) _, by simp⟩
  case round =>
    obtain ⟨k, hk, rfl, hown, hbl, hsz⟩ := hrel
    have HO := Lib.hid hown; have HL := Lib.hid hbl
    clear hown hbl
    by_cases hlt : k < 4
    · have ix := ns_index s k hlt
      have hd : decide ((k : Int) < 4) = true := decide_eq_true (by omega)
      go_wp2_with fail
      obtain ⟨wo, hwo⟩ : ∃ wo : World, wo = wr := ⟨_, rfl⟩
      rw [← hwo] at HO HL hsz
      rw [← hwo]
      clear hwo
      have hw64 := wn_lt s k
      have HW64 := Lib.hid hw64
      clear hw64
      go_loopw [3, 5] (fun l x wr => ∃ j : Nat, x = .int .u64 (strike j (wn s k) : Nat) ∧ wr.ownsRow (w.heap.size + 1) 3 1 l (ints (lstIn s k j)).length (nums (ints (lstIn s k j))) ∧ Below w.heap.size w wr ∧ w.heap.size + 1 ≤ wr.heap.size) (fun _ x _ => (intOf x).toNat)
      case atStart => exact ⟨0, rfl, by rw [lstIn_zero]; exact HO.out, HL.out, hsz⟩
      case round =>
        obtain ⟨j, rfl, hown, hbl, hsz1⟩ := hrel
        have HO1 := Lib.hid hown; have HL1 := Lib.hid hbl
        have hlen := lstIn_len s k j
        clear hown hbl hsz
        have hst := strike_lt j HW64.out
        by_cases h0 : strike j (wn s k) = 0
        · have hj := (strike_zero_iff j HW64.out).1 h0
          have HE := Lib.hid (lstIn_all s k j hj)
          clear hj hst hlen
          go_wp2_with fail
          go_roundw
          case rel => exact ⟨k + 1, by omega, by go_num, by rw [← HE.out]; exact HO1.out, HL1.out, hsz1⟩
          case measure => simp [intOf]; omega
        · obtain ⟨m, hm, htz⟩ := low_bit h0 hst
          obtain ⟨y, hy⟩ : ∃ y, y = strike j (wn s k) := ⟨_, rfl⟩
          have HE := Lib.hid (lstIn_succ s k j h0)
          have HS := Lib.hid (strike_succ j (wn s k))
          rw [← hy] at h0 hst htz HE HS
          rw [← hy]
          have HY := Lib.hid hy
          clear hm hy
          have hne : ((y : Int) != 0) = true := by simp; omega
          have hyle : y ≤ 18446744073709551615 := by omega
          have c1 := clear_u64 y h0 hyle
          have c2 := or_i64_add k (Lib.ctz 64 y) hlt htz
          obtain ⟨z, hz⟩ : ∃ z, z = Lib.ctz 64 y := ⟨_, rfl⟩
          have H0 := Lib.hid h0
          have hy1 : 1 ≤ y := by omega
          clear h0
          go_wp2_with fail
          refine (tz_c y hyle H0.out _ (HT.out.below HL1.out hlt0)).mono ?_
          rintro e w1 ⟨rfl, rfl⟩
          rw [← hz] at htz c2 HE ⊢
          have HZ := Lib.hid hz
          clear hz
          go_wp2_with (at_builtin; go_must (refine append_num (w.heap.size + 1) rfl (.tmp 17) (.tmp 23) rfl _ (ints (lstIn s k j)) ((64 * k + z : Nat) : Int) rfl rfl HO1.out (by omega) (by rw [ints_len_eq]; omega) ?_; intro v1 w2 hown2 hg hbb))
          go_roundw
          case rel =>
            refine ⟨j + 1, by rw [HS.out], ?_, below_own HL1.out hg (by omega) hbb (by omega), Nat.le_trans hsz1 hg.size⟩
            rw [HE.out, ints_snoc]
            exact hown2
          case measure =>
            have h1 := @Nat.and_le_right y (y - 1)
            have h2 := H0.out
            simp [intOf]; omega
    · obtain rfl : k = 4 := by omega
      go_wp2_with fail
      go_ret
      exact ⟨_, rfl, by rw [lst_ints]; exact own_mono HO.out (by omega), HL.out⟩
end Go.Proofs.YtmhbblkihjmonaaDoor
