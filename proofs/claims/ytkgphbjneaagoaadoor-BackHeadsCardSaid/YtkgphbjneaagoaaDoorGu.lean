/- Back: theirs, with the rows it made. -/
import Derived.Test.YtkgphbjneaagoaaDoorGl
set_option linter.unusedVariables false
set_option maxRecDepth 100000
namespace Go.Proofs.YtkgphbjneaagoaaDoor
open Go.RowKit Go.Sort

theorem Ms.two {w W : World} {ex : Nat → Prop} {l : List Own} (h : Ms w ex l W) (a b : Nat) {o0 o1 : Own} (h0 : l[a]? = some o0) (h1 : l[b]? = some o1) (hne : a ≠ b) : Ms w ex [o0, o1] W :=
  h.pick (fun k => if k = 0 then a else b) _ (fun k o hk => by
    match k, hk with
    | 0, hk => simp at hk; subst hk; simpa using h0
    | 1, hk => simp at hk; subst hk; simpa using h1
    | k + 2, hk => simp at hk) (fun x y hx hy he => by
    simp only [List.length_cons, List.length_nil] at hx hy
    rcases (show x = 0 ∨ x = 1 by omega) with rfl | rfl <;> rcases (show y = 0 ∨ y = 1 by omega) with rfl | rfl <;> simp at he ⊢ <;> omega)
/-- Some new ones. -/
theorem Ms.madeL {w W W' : World} {ex : Nat → Prop} {L K : List Own} (h : Ms w ex L W) (hM : Ms W noB K W') : Ms w ex (L ++ K) W' := by
  have h1 := h.after hM.below
  have key : ∀ (i : Nat) (o : Own), (L ++ K)[i]? = some o → (i < L.length ∧ L[i]? = some o) ∨ (L.length ≤ i ∧ K[i - L.length]? = some o) := fun i o hi => by
    rcases Nat.lt_or_ge i L.length with h2 | h2
    · rw [List.getElem?_append_left h2] at hi; exact .inl ⟨h2, hi⟩
    · rw [List.getElem?_append_right h2] at hi; exact .inr ⟨h2, hi⟩
  have hlo : ∀ (i : Nat) (o : Own), K[i]? = some o → ∀ k, o.bl k → W.heap.size ≤ k := fun i o hi k hk => (hM.lo i o hi k hk).elim id (fun h => h.elim)
  refine ⟨fun i o hi => ?_, fun i o hi k hk => ?_, fun i j a b hi hj hij k ha hb => ?_, h1.turn⟩
  · rcases key i o hi with h2 | h2
    · exact h1.ok i o h2.2
    · exact hM.ok _ o h2.2
  · rcases key i o hi with h2 | h2
    · exact h1.lo i o h2.2 k hk
    · exact .inl (Nat.le_trans h.turn.size (hlo _ o h2.2 k hk))
  · rcases key i a hi with h2 | h2 <;> rcases key j b hj with h3 | h3
    · exact h1.apart i j a b h2.2 h3.2 hij k ha hb
    · have h4 := a.lt W (h.ok i a h2.2) k ha
      have h5 := hlo _ b h3.2 k hb
      omega
    · have h4 := b.lt W (h.ok j b h3.2) k hb
      have h5 := hlo _ a h2.2 k ha
      omega
    · exact hM.apart _ _ a b h2.2 h3.2 (by omega) k ha hb
set_option maxHeartbeats 32000000 in
theorem theirs_m (now : Int) (up : NS) (A : Option Addr) (n c : Nat) (rs : List Ru) (B : Option Addr) (m d : Nat) (ws : List Wi) (w : World) (hA : RdR w A n rs) (hB : RdW w B m ws) (hn : n ≤ 2000000000000) (hm : m ≤ 2000000000000) :
    Calls Tryd.prog 12 #[scV now up A n c B m d] w fun e w' => ∃ A' c' B' d', e = .returned (scV now up A' n c' B' m d') ∧ RdR w' A' n rs ∧ RdW w' B' m ws ∧ Below w.heap.size w w' ∧ Ms w noB [rowS 77 5 ruL A' c' rs, rowS 68 7 wiL B' d' ws] w' := by
  have HA := Lib.hid hA
  have HB := Lib.hid hB
  have HLr := Lib.hid (show rs.length = n from hA.1)
  have HLw := Lib.hid (show ws.length = m from hB.1)
  have HN := Lib.hid (And.intro hn hm)
  have hnI : (n : Int) ≤ 9223372036854775807 := by have := hA.2.1; omega
  have hmI : (m : Int) ≤ 9223372036854775807 := by have := hB.2.1; omega
  clear hA hB hn hm
  go_enter Tryd.func12, Tryd.ntmps12
  have HS0 := Lib.hid (Ms.nil w noB)
  go_wp2_with (first
    | (have hq := HS0; clear hq; (with_reducible refine atBox ?_); refine wpList_alloc_b rfl (some 1) rfl 28 ((scA now up A n c B m d)) (by kernel_rfl) ?_; intro g1 W1 hb hB hg; have HS1 := Lib.hid (HS0.out.new hb hB hg); clear hb hB hg HS0)
    | (have hq := HS1; clear hq; (with_reducible refine atAlloc ?_); refine wpList_alloc_b rfl (some 2) rfl 38 (#[.int .i64 0, .int .u64 0, .int .u64 0, .int .u64 0, .int .u64 0, .slice none 0 0, .slice none 0 0]) (by kernel_rfl) ?_; intro g2 W2 hb hB hg; have HS2 := Lib.hid (HS1.out.new hb hB hg); clear hb hB hg HS1; obtain ⟨r0a, r0b, r0c⟩ := HS2.out.rules 0 rfl)
    | (have hq := HS2; clear hq; (with_reducible refine atLoad ?_); refine wpList_load_at rfl 24 _ rfl (HS2.out.at_ 0 rfl) 4 (.agg #[.int .u64 (wn up 0 : Nat), .int .u64 (wn up 1 : Nat), .int .u64 (wn up 2 : Nat), .int .u64 (wn up 3 : Nat)]) rfl _ Tryd.underlying24 rfl (by kernel_rfl) (Nat.le_of_ble_eq_true rfl) rfl ?_)
    | (have hq := HS2; clear hq; (with_reducible refine atAlloc ?_); refine wpList_alloc_b rfl (some 3) rfl 38 (#[.int .i64 0, .int .u64 0, .int .u64 0, .int .u64 0, .int .u64 0, .slice none 0 0, .slice none 0 0]) (by kernel_rfl) ?_; intro g3 W3 hb hB hg; have HS3 := Lib.hid (HS2.out.new hb hB hg); clear hb hB hg HS2; clear r0a r0b r0c)
    | (have hq := HS3; clear hq; (with_reducible refine atStore ?_); refine wpList_store_at rfl 38 _ _ rfl (HS3.out.at_ 2 rfl) (.agg #[.int .i64 now, .int .u64 (wn up 0 : Nat), .int .u64 (wn up 1 : Nat), .int .u64 (wn up 2 : Nat), .int .u64 (wn up 3 : Nat), .slice none 0 0, .slice none 0 0]) rfl rfl (by kernel_rfl) (Nat.le_of_ble_eq_true rfl) (by kernel_rfl) ?_; intro W4 hB hP; have HS4 := Lib.hid (HS3.out.put 2 rfl (new := #[.int .i64 now, .int .u64 (wn up 0 : Nat), .int .u64 (wn up 1 : Nat), .int .u64 (wn up 2 : Nat), .int .u64 (wn up 3 : Nat), .slice none 0 0, .slice none 0 0]) hB hP); clear hB hP HS3; obtain ⟨r0a, r0b, r0c⟩ := HS4.out.rules 0 rfl))
  have HS5 := Lib.hid (HS4.out.nilS 77 5 ruL)
  clear HS4 r0a r0b r0c
  go_loopw [16] (fun k wr => ∃ (kk : Nat) (A2 : Option Addr) (c2 : Nat), kk ≤ n ∧ k = .int .i64 (kk : Nat) ∧ Hid (Ms w noB [(.blk g1 28 (scA now up A n c B m d)), (.blk g2 38 #[.int .i64 0, .int .u64 0, .int .u64 0, .int .u64 0, .int .u64 0, .slice none 0 0, .slice none 0 0]), .blk g3 38 #[.int .i64 now, .int .u64 (wn up 0 : Nat), .int .u64 (wn up 1 : Nat), .int .u64 (wn up 2 : Nat), .int .u64 (wn up 3 : Nat), .slice A2 (rs.take kk).length c2, .slice none 0 0], rowS 77 5 ruL A2 c2 (rs.take kk)] wr)) (fun k _ => n - (intOf k).toNat)
  case atStart => exact ⟨0, _, _, by omega, rfl, HS5⟩
  case round =>
    obtain ⟨k, A2, c2, hkn, rfl, HS6⟩ := hrel
    by_cases hlt : k < n
    · have hltI : (k : Int) < (n : Int) := by omega
      obtain ⟨ad, x, hAe, hx, hc⟩ := (HA.out.below HS6.out.below).at_ hlt
      subst hAe
      have HC := Lib.hid hc
      have HRX := Lib.hid (take_one hx)
      obtain ⟨R, hR⟩ : ∃ R, R = rs.take k := ⟨_, rfl⟩
      rw [← hR] at HS6 HRX
      have HRL := Lib.hid (show (R.length + 1) * 40 ≤ 140737488355328 by rw [hR, List.length_take]; have := HN.out.1; omega)
      clear hc hx hR
      go_wp2_with (first
        | (have hq := HC; clear hq; refine wpList_load_ad (by kernel_rfl) 55 _ rfl (ad.add (k * 5)) ((ruL x)) HC.out rfl _ (ruV x) rfl Tryd.underlying55 rfl (by kernel_rfl) ?_; clear HC)
        | (have hq := HS6; clear hq; (with_reducible refine atAlloc ?_); refine wpList_alloc_b rfl (some 5) rfl 55 (#[.int .u64 0, .int .u64 0, .int .u64 0, .int .u64 0, .int .i64 0]) (by kernel_rfl) ?_; intro g7 W7 hb hB hg; have HS7 := Lib.hid (HS6.out.new hb hB hg); clear hb hB hg HS6)
        | (have hq := HS7; clear hq; (with_reducible refine atStore ?_); refine wpList_store_at rfl 55 _ _ rfl (HS7.out.at_ 4 rfl) (ruV x) rfl rfl (by kernel_rfl) (Nat.le_of_ble_eq_true rfl) (by kernel_rfl) ?_; intro W8 hB hP; have HS8 := Lib.hid (HS7.out.put 4 rfl (new := (ruA x)) hB hP); clear hB hP HS7; obtain ⟨r2a, r2b, r2c⟩ := HS8.out.rules 2 rfl; obtain ⟨r4a, r4b, r4c⟩ := HS8.out.rules 4 rfl)
        | (have hq := HS8; clear hq; (with_reducible refine atLoad ?_); refine wpList_load_at rfl 24 _ rfl (HS8.out.at_ 4 rfl) 4 (.agg #[.int .u64 (wn x.nodes 0 : Nat), .int .u64 (wn x.nodes 1 : Nat), .int .u64 (wn x.nodes 2 : Nat), .int .u64 (wn x.nodes 3 : Nat)]) rfl _ Tryd.underlying24 rfl (by kernel_rfl) (Nat.le_of_ble_eq_true rfl) rfl ?_)
        | (have hq := HS8; clear hq; (with_reducible refine atBuild ?_); refine wpList_build_b rfl (some 27) rfl 77 1 (#[.int .u64 (wn x.nodes 0 : Nat), .int .u64 (wn x.nodes 1 : Nat), .int .u64 (wn x.nodes 2 : Nat), .int .u64 (wn x.nodes 3 : Nat), .int .i64 x.end_]) (by kernel_rfl) ?_; intro g9 W9 hb hB hg; have HS9 := Lib.hid (HS8.out.new hb hB hg); clear hb hB hg HS8; clear r2a r2b r2c r4a r4b r4c)
        | (have hq := HS9; clear hq; refine append_one HS9.out 3 5 rfl _ _ 35 77 5 40 ruL (.agg #[.int .u64 0, .int .u64 0, .int .u64 0, .int .u64 0, .int .i64 0]) rfl Tryd.underlying35 (by kernel_rfl) rfl (by decide) A2 c2 R x g9 _ _ rfl rfl rfl rfl rfl rfl rfl (HRL.out) (by simp only [maxLen]; have := HRL.out; omega) ?_; intro A10 c10 W10 hM; have HS10 := Lib.hid hM; clear hM HS9)
        | (have hq := HS10; clear hq; (with_reducible refine atStore ?_); refine wpList_store_at rfl 35 _ _ rfl (HS10.out.at_ 2 rfl) (.slice A10 (R.length + 1) c10) rfl rfl (by kernel_rfl) (Nat.le_of_ble_eq_true rfl) (by kernel_rfl) ?_; intro W11 hB hP; have HS11 := Lib.hid (HS10.out.put 2 rfl (new := #[.int .i64 now, .int .u64 (wn up 0 : Nat), .int .u64 (wn up 1 : Nat), .int .u64 (wn up 2 : Nat), .int .u64 (wn up 3 : Nat), .slice A10 (R.length + 1) c10, .slice none 0 0]) hB hP); clear hB hP HS10))
      refine ⟨⟨k + 1, A10, c10, by omega, by go_num, ?_⟩, by simp [intOf]; omega⟩
      rw [HRX.out, show (R ++ [x]).length = R.length + 1 by simp]
      exact Lib.hid (Ms.cut (l := [(.blk g1 28 (scA now up (some ad) n c B m d)), (.blk g2 38 #[.int .i64 0, .int .u64 0, .int .u64 0, .int .u64 0, .int .u64 0, .slice none 0 0, .slice none 0 0]), (.blk g3 38 #[.int .i64 now, .int .u64 (wn up 0 : Nat), .int .u64 (wn up 1 : Nat), .int .u64 (wn up 2 : Nat), .int .u64 (wn up 3 : Nat), .slice A10 (R.length + 1) c10, .slice none 0 0]), rowS 77 5 ruL A10 c10 (R ++ [x])]) (k := [(.blk g7 55 (ruA x)), (.blk g9 77 #[.int .u64 (wn x.nodes 0 : Nat), .int .u64 (wn x.nodes 1 : Nat), .int .u64 (wn x.nodes 2 : Nat), .int .u64 (wn x.nodes 3 : Nat), .int .i64 x.end_])]) HS11.out)
    · obtain rfl : k = n := by omega
      have HQ := HS6.out
      rw [List.take_of_length_le (by rw [HLr.out]; exact Nat.le_refl _)] at HQ
      have HS7 := Lib.hid HQ
      clear HQ HS6
      have HS8 := Lib.hid (HS7.out.nilS 68 7 wiL)
      clear HS7
      obtain ⟨r0a, r0b, r0c⟩ := HS8.out.rules 0 rfl
      go_wp2_with fail
      clear r0a r0b r0c
      go_loopw [34] (fun j wr => ∃ (kk : Nat) (B2 : Option Addr) (d2 : Nat), kk ≤ m ∧ j = .int .i64 (kk : Nat) ∧ Hid (Ms w noB [(.blk g1 28 (scA now up A k c B m d)), (.blk g2 38 #[.int .i64 0, .int .u64 0, .int .u64 0, .int .u64 0, .int .u64 0, .slice none 0 0, .slice none 0 0]), .blk g3 38 #[.int .i64 now, .int .u64 (wn up 0 : Nat), .int .u64 (wn up 1 : Nat), .int .u64 (wn up 2 : Nat), .int .u64 (wn up 3 : Nat), .slice A2 rs.length c2, .slice B2 (ws.take kk).length d2], rowS 77 5 ruL A2 c2 rs, rowS 68 7 wiL B2 d2 (ws.take kk)] wr)) (fun j _ => m - (intOf j).toNat)
      case atStart => exact ⟨0, _, _, by omega, rfl, HS8⟩
      case round =>
        obtain ⟨j, B2, d2, hjm, rfl, HS9⟩ := hrel
        by_cases hlt2 : j < m
        · have hltI : (j : Int) < (m : Int) := by omega
          obtain ⟨ad, x, hBe, hx, hc⟩ := (HB.out.below HS9.out.below).at_ hlt2
          subst hBe
          have HC := Lib.hid hc
          have HRX := Lib.hid (take_one hx)
          obtain ⟨R, hR⟩ : ∃ R, R = ws.take j := ⟨_, rfl⟩
          rw [← hR] at HS9 HRX
          have HRL := Lib.hid (show (R.length + 1) * 56 ≤ 140737488355328 by rw [hR, List.length_take]; have := HN.out.2; omega)
          clear hc hx hR
          go_wp2_with (first
            | (have hq := HC; clear hq; refine wpList_load_ad (by kernel_rfl) 49 _ rfl (ad.add (j * 7)) ((wiL x)) HC.out rfl _ (wiV x) rfl Tryd.underlying49 rfl (by kernel_rfl) ?_; clear HC)
            | (have hq := HS9; clear hq; (with_reducible refine atAlloc ?_); refine wpList_alloc_b rfl (some 7) rfl 49 (#[.int .i64 0, .int .i64 0, .int .i64 0, .int .u64 0, .int .u64 0, .int .u64 0, .int .u64 0]) (by kernel_rfl) ?_; intro g10 W10 hb hB hg; have HS10 := Lib.hid (HS9.out.new hb hB hg); clear hb hB hg HS9)
            | (have hq := HS10; clear hq; (with_reducible refine atStore ?_); refine wpList_store_at rfl 49 _ _ rfl (HS10.out.at_ 5 rfl) (wiV x) rfl rfl (by kernel_rfl) (Nat.le_of_ble_eq_true rfl) (by kernel_rfl) ?_; intro W11 hB hP; have HS11 := Lib.hid (HS10.out.put 5 rfl (new := (wiA x)) hB hP); clear hB hP HS10; obtain ⟨r2a, r2b, r2c⟩ := HS11.out.rules 2 rfl; obtain ⟨r5a, r5b, r5c⟩ := HS11.out.rules 5 rfl)
            | (have hq := HS11; clear hq; (with_reducible refine atLoad ?_); refine wpList_load_at rfl 24 _ rfl (HS11.out.at_ 5 rfl) 4 (.agg #[.int .u64 (wn x.of 0 : Nat), .int .u64 (wn x.of 1 : Nat), .int .u64 (wn x.of 2 : Nat), .int .u64 (wn x.of 3 : Nat)]) rfl _ Tryd.underlying24 rfl (by kernel_rfl) (Nat.le_of_ble_eq_true rfl) rfl ?_)
            | (have hq := HS11; clear hq; (with_reducible refine atBuild ?_); refine wpList_build_b rfl (some 49) rfl 68 1 (#[.int .i64 x.id, .int .i64 x.n, .int .i64 x.long, .int .u64 (wn x.of 0 : Nat), .int .u64 (wn x.of 1 : Nat), .int .u64 (wn x.of 2 : Nat), .int .u64 (wn x.of 3 : Nat)]) (by kernel_rfl) ?_; intro g12 W12 hb hB hg; have HS12 := Lib.hid (HS11.out.new hb hB hg); clear hb hB hg HS11; clear r2a r2b r2c r5a r5b r5c)
            | (have hq := HS12; clear hq; refine append_one HS12.out 4 6 rfl _ _ 36 68 7 56 wiL (.agg #[.int .i64 0, .int .i64 0, .int .i64 0, .int .u64 0, .int .u64 0, .int .u64 0, .int .u64 0]) rfl Tryd.underlying36 (by kernel_rfl) rfl (by decide) B2 d2 R x g12 _ _ rfl rfl rfl rfl rfl rfl rfl (HRL.out) (by simp only [maxLen]; have := HRL.out; omega) ?_; intro A13 c13 W13 hM; have HS13 := Lib.hid hM; clear hM HS12)
            | (have hq := HS13; clear hq; (with_reducible refine atStore ?_); refine wpList_store_at rfl 36 _ _ rfl (HS13.out.at_ 2 rfl) (.slice A13 (R.length + 1) c13) rfl rfl (by kernel_rfl) (Nat.le_of_ble_eq_true rfl) (by kernel_rfl) ?_; intro W14 hB hP; have HS14 := Lib.hid (HS13.out.put 2 rfl (new := #[.int .i64 now, .int .u64 (wn up 0 : Nat), .int .u64 (wn up 1 : Nat), .int .u64 (wn up 2 : Nat), .int .u64 (wn up 3 : Nat), .slice A2 rs.length c2, .slice A13 (R.length + 1) c13]) hB hP); clear hB hP HS13))
          refine ⟨⟨j + 1, A13, c13, by omega, by go_num, ?_⟩, by simp [intOf]; omega⟩
          rw [HRX.out, show (R ++ [x]).length = R.length + 1 by simp]
          exact Lib.hid (Ms.cut (l := [(.blk g1 28 (scA now up A k c (some ad) m d)), (.blk g2 38 #[.int .i64 0, .int .u64 0, .int .u64 0, .int .u64 0, .int .u64 0, .slice none 0 0, .slice none 0 0]), (.blk g3 38 #[.int .i64 now, .int .u64 (wn up 0 : Nat), .int .u64 (wn up 1 : Nat), .int .u64 (wn up 2 : Nat), .int .u64 (wn up 3 : Nat), .slice A2 rs.length c2, .slice A13 (R.length + 1) c13]), rowS 77 5 ruL A2 c2 rs, rowS 68 7 wiL A13 c13 (R ++ [x])]) (k := [(.blk g10 49 (wiA x)), (.blk g12 68 #[.int .i64 x.id, .int .i64 x.n, .int .i64 x.long, .int .u64 (wn x.of 0 : Nat), .int .u64 (wn x.of 1 : Nat), .int .u64 (wn x.of 2 : Nat), .int .u64 (wn x.of 3 : Nat)])]) HS14.out)
        · obtain rfl : j = m := by omega
          have HQ := HS9.out
          rw [List.take_of_length_le (by rw [HLw.out]; exact Nat.le_refl _)] at HQ
          have HS10 := Lib.hid HQ
          clear HQ HS9
          go_wp2_with (first
            | (have hq := HS10; clear hq; (with_reducible refine atLoad ?_); refine wpList_load_at rfl 38 _ rfl (HS10.out.at_ 2 rfl) 7 (.agg #[.int .i64 now, .int .u64 (wn up 0 : Nat), .int .u64 (wn up 1 : Nat), .int .u64 (wn up 2 : Nat), .int .u64 (wn up 3 : Nat), .slice A2 rs.length c2, .slice B2 ws.length d2]) rfl _ Tryd.underlying38 rfl (by kernel_rfl) (Nat.le_of_ble_eq_true rfl) rfl ?_)
            | (have hq := HS10; clear hq; (with_reducible refine atStore ?_); refine wpList_store_at rfl 38 _ _ rfl (HS10.out.at_ 1 rfl) (.agg #[.int .i64 now, .int .u64 (wn up 0 : Nat), .int .u64 (wn up 1 : Nat), .int .u64 (wn up 2 : Nat), .int .u64 (wn up 3 : Nat), .slice A2 rs.length c2, .slice B2 ws.length d2]) rfl rfl (by kernel_rfl) (Nat.le_of_ble_eq_true rfl) (by kernel_rfl) ?_; intro W11 hB hP; have HS11 := Lib.hid (HS10.out.put 1 rfl (new := #[.int .i64 now, .int .u64 (wn up 0 : Nat), .int .u64 (wn up 1 : Nat), .int .u64 (wn up 2 : Nat), .int .u64 (wn up 3 : Nat), .slice A2 rs.length c2, .slice B2 ws.length d2]) hB hP); clear hB hP HS10))
          exact post_cell rfl rfl (HS11.out.at_ 1 rfl) Tryd.underlying38 rfl (by kernel_rfl) rfl ⟨A2, c2, B2, d2, by rw [← HLr.out, ← HLw.out], by rw [← HLr.out]; exact rowS_read (fun _ => rfl) (HS11.out.ok 3 _ rfl), by rw [← HLw.out]; exact rowS_read (fun _ => rfl) (HS11.out.ok 4 _ rfl), HS11.out.below, HS11.out.two 3 4 rfl rfl (by decide)⟩
end Go.Proofs.YtkgphbjneaagoaaDoor
