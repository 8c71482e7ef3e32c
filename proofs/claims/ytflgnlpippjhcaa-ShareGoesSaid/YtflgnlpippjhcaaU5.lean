/- Share: Add whole, Total, Factor. -/
import Derived.Test.YtflgnlpippjhcaaU4
import Derived.Laws.Externs
set_option linter.unusedVariables false
set_option maxRecDepth 100000
namespace Go.Proofs.Ytflgnlpippjhcaa
open Go.RowKit Go.Sort Go.Maps

/-- Add. -/
theorem add_l (g b : Nat) (half : Int) (L : Led) (n : Nm) (amount now : Int) (w : World) (hO : (ldP g b half L).ok w) (hK : LOk half L) (hn : n.length ≤ maxLen) :
    Calls Try.prog 14 #[.pointer (some ⟨g, 0, none⟩), str n, .int .i64 amount, .int .i64 now] w fun e w' => e = .returned (.int .i64 (addE L n amount now)) ∧ Ms w (ldP g b half L).bl [ldP g b half (addL half L n amount now)] w' := by
  unfold addL addE
  rcases userE_cases L n now with hu | hu
  · rw [if_neg (show ¬ userE L n now = 1 by omega)]
    rcases mayE_cases n amount with hm | hm
    · rw [if_neg (show ¬ mayE n amount = 1 by omega)]
      cases hl : look L n with
      | some a =>
        rw [if_neg (by simp), if_pos rfl]
        exact add_o g b half L n amount now w hO hK hn hu hm a hl
      | none =>
        by_cases hf : 1024 ≤ L.length
        · rw [if_pos ⟨rfl, hf⟩, if_neg (by decide)]
          exact add_f g b half L n amount now w hO hK hn hu hm hl hf
        · rw [if_neg (fun h => hf h.2), if_pos rfl]
          exact add_n g b half L n amount now w hO hK hn hu hm hl (by omega)
    · rw [if_pos hm, if_neg (by decide)]
      exact add_m g b half L n amount now w hO hK hn hu hm
  · rw [if_pos hu, if_neg (by decide)]
    exact add_u g b half L n amount now w hO hK hn hu
theorem userE_none {half : Int} {L : Led} (h : LOk half L) (now : Int) : userE L [] now = totE now := by
  have h1 : look L [] = none := look_none.2 fun p hp => (h.nm p hp).1
  unfold userE totE acc
  rw [h1]
  by_cases ht : timeP now
  · rw [if_pos ht, if_pos ⟨ht, ht.1⟩]
  · rw [if_neg ht, if_neg (fun h => ht h.1)]
theorem tot_n (g b : Nat) (half : Int) (L : Led) (now : Int) (w : World) (hR : LdR w g b half L) (ht : ¬ timeP now) : Calls Try.prog 20 #[.pointer (some ⟨g, 0, none⟩), .int .i64 now] w fun e w' => e = .returned (.tuple #[.int .i64 0, .int .i64 1]) ∧ Below w.heap.size w w' := by
  have HU := Lib.hid (show userE L [] now = 1 by rw [userE_none hR.ok]; unfold totE; rw [if_neg ht])
  clear ht
  have HR := Lib.hid hR
  obtain ⟨ob, hob, hst⟩ := hR.start
  have HB := Lib.hid hR.blk
  have HO := Lib.hid hob
  have HOK := Lib.hid hR.ok
  have HST := Lib.hid hst
  clear hR hob hst
  go_enter Try.func20, Try.ntmps20
  have HS0 := Lib.hid (HST.out)
  clear HST
  go_wp2_with fail
  refine (user_n g b half L [] now _ (HS0.out.ldR 0 1 rfl rfl HOK.out) (by simp) HU.out).mono ?_
  rintro e W1 ⟨rfl, hb⟩
  have HS1 := Lib.hid (HS0.out.after hb)
  clear hb HS0
  go_wp2_with (first
    | (have hq := HS1; clear hq; (with_reducible refine atAlloc ?_); refine wpList_alloc_b rfl (some 6) rfl 66 (#[.int .i64 0, .int .i64 0]) (by kernel_rfl) ?_; intro g2 W2 hb hB hg; have HS2 := Lib.hid (HS1.out.new hb hB hg); clear hb hB hg HS1)
    | (have hq := HS2; clear hq; (with_reducible refine atStore ?_); refine wpList_store_at rfl 66 _ _ rfl (HS2.out.at_ 2 rfl) (acV (⟨0, 0⟩ : Ac)) rfl rfl (by kernel_rfl) (Nat.le_of_ble_eq_true rfl) (by kernel_rfl) ?_; intro W3 hB hP; have HS3 := Lib.hid (HS2.out.put 2 rfl (new := (acA (⟨0, 0⟩ : Ac))) hB hP); clear hB hP HS2))
  go_ret2
  exact ⟨rfl, HS3.out.stillR HB.out HO.out⟩
theorem Ms.ldRg {w W : World} {ex : Nat → Prop} {l : List Own} {g b r : Nat} {half : Int} {L : Led} {ob : Obj} {left : Lit → Bool} {cnt : Nat} (h : Ms w ex l W) (i j : Nat) (hi : l[i]? = some (.blk g lgT (lgA half b))) (hj : l[j]? = some (.rg b r ob L left cnt)) (hL : LOk half L) : LdR W g b half L := ⟨h.at_ i hi, (h.ok j _ hj).2.owns, hL⟩
set_option maxHeartbeats 8000000 in
theorem tot_y (g b : Nat) (half : Int) (L : Led) (now : Int) (w : World) (hR : LdR w g b half L) (ht : timeP now) : Calls Try.prog 20 #[.pointer (some ⟨g, 0, none⟩), .int .i64 now] w fun e w' => e = .returned (.tuple #[.int .i64 (totV half L now), .int .i64 0]) ∧ Below w.heap.size w w' := by
  have HU := Lib.hid (show userE L [] now = 0 by rw [userE_none hR.ok]; unfold totE; rw [if_pos ht])
  have HT := Lib.hid ht
  clear ht
  have HR := Lib.hid hR
  obtain ⟨ob, hob, hst⟩ := hR.start
  have HB := Lib.hid hR.blk
  have HO := Lib.hid hob
  have HOK := Lib.hid hR.ok
  have HST := Lib.hid hst
  clear hR hob hst
  go_enter Try.func20, Try.ntmps20
  have HS0 := Lib.hid (HST.out)
  clear HST
  go_wp2_with fail
  refine (user_y g b half L [] now _ (HS0.out.ldR 0 1 rfl rfl HOK.out) (by simp) HU.out).mono ?_
  rintro e W1 ⟨rfl, hb⟩
  have HS1 := Lib.hid (HS0.out.after hb)
  clear hb HS0
  go_wp2_with (first
    | (have hq := HS1; clear hq; (with_reducible refine atAlloc ?_); refine wpList_alloc_b rfl (some 6) rfl 66 (#[.int .i64 0, .int .i64 0]) (by kernel_rfl) ?_; intro g2 W2 hb hB hg; have HS2 := Lib.hid (HS1.out.new hb hB hg); clear hb hB hg HS1)
    | (have hq := HS2; clear hq; (with_reducible refine atStore ?_); refine wpList_store_at rfl 66 _ _ rfl (HS2.out.at_ 2 rfl) (acV (acc L [])) rfl rfl (by kernel_rfl) (Nat.le_of_ble_eq_true rfl) (by kernel_rfl) ?_; intro W3 hB hP; have HS3 := Lib.hid (HS2.out.put 2 rfl (new := (acA (acc L []))) hB hP); clear hB hP HS2; obtain ⟨r0a, r0b, r0c⟩ := HS3.out.rules 0 rfl)
    | (have hq := HS3; clear hq; refine wpList_rangeMp HS3.out 1 rfl rfl _ 54 rfl Try.underlying54 rfl ?_; intro r0 W4 hM; have HS4 := Lib.hid hM; clear hM HS3; clear r0a r0b r0c))
  go_frame
  go_loopw [9, 27] (fun t _ wr => ∃ (left : Lit → Bool) (cnt : Nat), t = .int .i64 (mostV (doneT half now L left)) ∧ Hid (Ms w (exR g b) [(.blk g lgT (lgA half b)), .rg b r0 ob L left cnt, (.blk g2 66 (acA (acc L [])))] wr)) (fun _ _ wr => wr.rangeLeft b r0)
  case atStart => exact ⟨_, _, by rw [done_start]; rfl, HS4⟩
  case round =>
    obtain ⟨left, cnt, rfl, HS5⟩ := hrel
    obtain ⟨D, hD⟩ : ∃ D, D = mostV (doneT half now L left) := ⟨_, rfl⟩
    have HD := Lib.hid hD
    rw [← hD]
    clear hD
    have HLF := Lib.hid (HS5.out.ok 1 _ rfl).2.left_eq
    go_wp2_with (have hq := HS5; clear hq; refine wpList_nextMp HS5.out 1 rfl rfl _ rfl rfl ?_ ?_)
    · intro hl0
      have HS6 := Lib.hid (HS5.out.rgEnd 1 rfl)
      clear HS5
      go_wp2_with fail
      go_ret2
      exact ⟨by rw [HD.out, done_end hl0]; unfold totV; rw [if_pos HT.out]; rfl, HS6.out.stillR HB.out HO.out⟩
    · intro n c W9 cnt2 hlook hleft hlt hnl hM hen
      have HS9 := Lib.hid hM
      clear hM HS5
      have HLK := Lib.hid hlook
      have HAC := Lib.hid (HOK.out.ac _ (look_mem hlook))
      have HDS := Lib.hid (done_step (half := half) (now := now) HOK.out.ris hleft hlook)
      have HLT := Lib.hid hlt
      clear hlook hleft hlt hnl
      have HDN := Lib.hid (done_nonneg HOK.out HT.out.2 left)
      by_cases c1 : c.at_ ≤ now
      · have HAV := Lib.hid (show 0 ≤ (lat half c now).has ∧ (lat half c now).has ≤ 1152921504606846976 from ⟨(lat_ok HOK.out.half.1 HAC.out c1 HT.out.2).1.h0, (lat_ok HOK.out.half.1 HAC.out c1 HT.out.2).1.h1⟩)
        have HDI := Lib.hid (show inI D by rw [HD.out, most_nonneg HDN.out]; unfold inI; have := HDN.out; omega)
        have HC1 := Lib.hid c1
        have hfl := ac_has (lat half c now)
        have HD2 := Lib.hid (show mostV (D + (lat half c now).has) = mostV (doneT half now L fun z => left z && !z.sameKey (.string n)) by
          rw [HDS.out, HD.out]
          unfold valT
          simp only [if_pos c1]
          rw [most_add HDN.out HAV.out.1])
        go_wp2_with (first
          | (have hq := HS9; clear hq; (with_reducible refine atAlloc ?_); refine wpList_alloc_b rfl (some 11) rfl 66 (#[.int .i64 0, .int .i64 0]) (by kernel_rfl) ?_; intro g10 W10 hb hB hg; have HS10 := Lib.hid (HS9.out.new hb hB hg); clear hb hB hg HS9)
          | (have hq := HS10; clear hq; (with_reducible refine atStore ?_); refine wpList_store_at rfl 66 _ _ rfl (HS10.out.at_ 3 rfl) (acV c) rfl rfl (by kernel_rfl) (Nat.le_of_ble_eq_true rfl) (by kernel_rfl) ?_; intro W11 hB hP; have HS11 := Lib.hid (HS10.out.put 3 rfl (new := (acA c)) hB hP); clear hB hP HS10; obtain ⟨r3a, r3b, r3c⟩ := HS11.out.rules 3 rfl)
          | (have hq := HS11; clear hq; (with_reducible refine atLoad ?_); refine wpList_load_at rfl 66 _ rfl (HS11.out.at_ 3 rfl) 2 (acV c) rfl _ Try.underlying66 rfl (by kernel_rfl) (Nat.le_of_ble_eq_true rfl) rfl ?_))
        clear hen
        refine (later_c g b half L c now _ (HS11.out.ldRg 0 1 rfl rfl HOK.out) HAC.out HC1.out HT.out.2).mono ?_
        rintro e W12 ⟨rfl, hb⟩
        have HS12 := Lib.hid (HS11.out.after hb)
        clear hb HS11 r3a r3b r3c
        go_wp2_with fail
        refine (most_c D (lat half c now).has HDI.out (by unfold inI; have := HAV.out; omega) _).mono ?_
        rintro e w' ⟨rfl, rfl⟩
        go_wp2_with fail
        refine ⟨⟨_, cnt2, by rw [HD2.out], Lib.hid (Ms.cut (l := [(.blk g lgT (lgA half b)), .rg b r0 ob L (fun z => left z && !z.sameKey (.string n)) cnt2, (.blk g2 66 (acA (acc L [])))]) (k := [(.blk g10 66 (acA c))]) HS12.out)⟩, ?_⟩
        rw [(HS12.out.ok 1 _ rfl).2.left_eq, HLF.out]
        exact HLT.out
      · have c1n : now < c.at_ := by omega
        have HD2 := Lib.hid (show D = mostV (doneT half now L fun z => left z && !z.sameKey (.string n)) by
          rw [HDS.out, HD.out]
          unfold valT
          simp only [if_neg c1]
          rw [Int.add_zero])
        go_wp2_with (first
          | (have hq := HS9; clear hq; (with_reducible refine atAlloc ?_); refine wpList_alloc_b rfl (some 11) rfl 66 (#[.int .i64 0, .int .i64 0]) (by kernel_rfl) ?_; intro g10 W10 hb hB hg; have HS10 := Lib.hid (HS9.out.new hb hB hg); clear hb hB hg HS9)
          | (have hq := HS10; clear hq; (with_reducible refine atStore ?_); refine wpList_store_at rfl 66 _ _ rfl (HS10.out.at_ 3 rfl) (acV c) rfl rfl (by kernel_rfl) (Nat.le_of_ble_eq_true rfl) (by kernel_rfl) ?_; intro W11 hB hP; have HS11 := Lib.hid (HS10.out.put 3 rfl (new := (acA c)) hB hP); clear hB hP HS10; obtain ⟨r3a, r3b, r3c⟩ := HS11.out.rules 3 rfl))
        refine ⟨⟨_, cnt2, by rw [HD2.out], Lib.hid (Ms.cut (l := [(.blk g lgT (lgA half b)), .rg b r0 ob L (fun z => left z && !z.sameKey (.string n)) cnt2, (.blk g2 66 (acA (acc L [])))]) (k := [(.blk g10 66 (acA c))]) HS11.out)⟩, ?_⟩
        rw [(HS11.out.ok 1 _ rfl).2.left_eq, HLF.out]
        exact HLT.out
end Go.Proofs.Ytflgnlpippjhcaa
