/- Share: ShareSum. -/
import Derived.Test.YtflgnlpippjhcaaUc
set_option linter.unusedVariables false
set_option maxRecDepth 100000
namespace Go.Proofs.Ytflgnlpippjhcaa
open Go.RowKit Go.Sort Go.Maps

/-- The sum over the first k names. -/
def sumN (f : Nm → Int) (L : Led) (k : Nat) : Int := (((names L).take k).map f).sum
theorem sumN_zero (f : Nm → Int) (L : Led) : sumN f L 0 = 0 := rfl
theorem sumN_step (f : Nm → Int) (L : Led) {k : Nat} {u : Nm} (h : (names L)[k]? = some u) : sumN f L (k + 1) = sumN f L k + f u := by
  unfold sumN
  obtain ⟨hk, rfl⟩ := List.getElem?_eq_some_iff.1 h
  rw [List.take_succ_eq_append_getElem hk, List.map_append, List.sum_append]
  simp
theorem sumN_all (f : Nm → Int) (L : Led) : sumN f L L.length = ((names L).map f).sum := by
  unfold sumN
  rw [List.take_of_length_le (by simp)]
theorem sumN_bounds {f : Nm → Int} {B : Int} (hf : ∀ u, 0 ≤ f u ∧ f u ≤ B) (L : Led) : ∀ k : Nat, k ≤ L.length → 0 ≤ sumN f L k ∧ sumN f L k ≤ (k : Int) * B
  | 0, _ => by rw [sumN_zero]; omega
  | k + 1, h => by
    have h1 : k < (names L).length := by simp; omega
    rw [sumN_step f L (List.getElem?_eq_getElem h1)]
    obtain ⟨a, b⟩ := sumN_bounds hf L k (by omega)
    obtain ⟨c, d⟩ := hf (names L)[k]
    have e : ((k + 1 : Nat) : Int) * B = (k : Int) * B + B := by rw [Int.natCast_succ, Int.add_mul, Int.one_mul]
    rw [e]
    omega
theorem tot_sum {half last : Int} {L : Led} (h : Inv half L last) (h7 : L.length ≤ 7) : totV half L last = sumN (fun u => usedV half L u last) L L.length := by
  have h1 := sumN_bounds (f := fun u => usedV half L u last) (fun u => h.ok.used u last) L L.length (Nat.le_refl _)
  have h2 : totT half L last = sumN (fun u => usedV half L u last) L L.length := by
    rw [sumN_all, tot_used h.ok h.upto h.lo h.hi, List.map_map]; rfl
  unfold totV
  rw [if_pos ⟨h.lo, h.hi⟩, h2, most_nonneg h1.1]
  omega
theorem part_zero {half last : Int} {L : Led} (h : Inv half L last) (hz : totV half L last = 0) : sumN (fun u => facV half L u last) L L.length = 1000 * (L.length : Int) := by
  rw [sumN_all]
  have : ∀ l : List Nm, (l.map fun u => facV half L u last).sum = 1000 * (l.length : Int) := fun l => by
    induction l with
    | nil => rfl
    | cons x r ih =>
      rw [List.map_cons, List.sum_cons, ih, List.length_cons]
      unfold facV
      rw [if_pos (user_ok h.upto h.lo h.hi x), if_pos hz]
      omega
  rw [this]
  simp
theorem part_sum {half last : Int} {L : Led} (h : Inv half L last) (h7 : L.length ≤ 7) (hz : ¬ totV half L last = 0) :
    sumN (fun u => facV half L u last) L L.length ≤ 1000 * ((L.length : Int) - 1) ∧ 1000 * ((L.length : Int) - 1) - (L.length : Int) < sumN (fun u => facV half L u last) L L.length := by
  have ht := tot_pos h.ok ⟨h.lo, h.hi⟩ hz
  have hs := tot_sum h h7
  rw [sumN_all] at hs
  have h1 := law_sum ht (l := (names L).map fun u => usedV half L u last) (fun v hv => by
    refine ⟨?_, ?_⟩
    · obtain ⟨u, _, rfl⟩ := List.mem_map.1 hv
      exact (h.ok.used u last).1
    · rw [hs]
      exact le_sum (fun v hv => by
        obtain ⟨u, _, rfl⟩ := List.mem_map.1 hv
        exact (h.ok.used u last).1) v hv) hs.symm
  rw [List.map_map] at h1
  have e : ((fun u => 1000 - facQ u (totV half L last)) ∘ fun u => usedV half L u last) = fun u => facV half L u last := by
    funext u
    show 1000 - facQ (usedV half L u last) (totV half L last) = facV half L u last
    unfold facV
    rw [if_pos (user_ok h.upto h.lo h.hi u), if_neg hz]
  rw [e] at h1
  rw [sumN_all]
  simpa using h1
set_option maxHeartbeats 16000000 in
theorem shareSum_w (half : Int) (A : Option Addr) (n c : Nat) (acts : List Ak) (w : World) (hA : RdS 3 akL w A n acts) (h1 : n ≤ c) (h2 : c ≤ maxLen) (hB : ∀ x ∈ acts, AkOk x) :
    Calls Try.prog 6 #[.int .i64 half, .slice A n c] w fun e w' => e = .returned (.bool true) ∧ Below w.heap.size w w' := by
  have HA := Lib.hid hA
  have HB := Lib.hid hB
  have HN1 := Lib.hid h1
  have HN2 := Lib.hid h2
  clear hA hB h1 h2
  go_enter Try.func6, Try.ntmps6
  have HS0 := Lib.hid (Ms.nil w noB)
  by_cases hh : 1 ≤ half ∧ half ≤ 1000000
  · have HH := Lib.hid hh
    clear hh
    go_wp2_with fail
    refine (new_y half _ HH.out.1 HH.out.2).mono ?_
    rintro e W1 ⟨g, b, rfl, hM⟩
    have HS1 := Lib.hid (HS0.out.made hM)
    clear hM HS0
    go_wp2_with fail
    refine (short_c A n c _ HN1.out HN2.out).mono ?_
    rintro e w' ⟨rfl, rfl⟩
    go_wp2_with fail
    go_loopw [7, 36] (fun l k wr => ∃ (kk : Nat) (L : Led) (last : Int), kk ≤ min n 300 ∧ k = .int .i64 (kk : Nat) ∧ l = .int .i64 last ∧ Hid (Inv half L last) ∧ Hid (Ms w noB [ldP g b half L] wr)) (fun _ k _ => min n 300 - (intOf k).toNat)
    case atStart => exact ⟨0, _, _, by omega, rfl, rfl, Lib.hid (inv_new HH.out), HS1⟩
    case round =>
      obtain ⟨k, L, last, hkm, rfl, rfl, HI, HS2⟩ := hrel
      have hkI : (k : Int) ≤ ((min n 300 : Nat) : Int) := by omega
      by_cases hlt : k < min n 300
      · have hltI : (k : Int) < ((min n 300 : Nat) : Int) := by omega
        obtain ⟨ad, x, rfl, hx, hc⟩ := HA.out.at_ (i := k) (by omega)
        have HX := Lib.hid (HB.out x (List.mem_of_getElem? hx))
        have HC := Lib.hid (fun j v hv => (HS2.out.below.cell (block_lt_of_cell (hc j v hv))).trans (hc j v hv))
        clear hc hx
        go_wp2_with (first
          | (have hq := HC; clear hq; refine wpList_load_ad (by kernel_rfl) 24 _ rfl (ad.add (k * 3)) (akL x) HC.out rfl _ (akV x) rfl Try.underlying24 rfl (by kernel_rfl) ?_; clear HC)
          | (have hq := HS2; clear hq; (with_reducible refine atAlloc ?_); refine wpList_alloc_b rfl (some 9) rfl 24 (#[.string .empty, .int .i64 0, .int .i64 0]) (by kernel_rfl) ?_; intro g3 W3 hb hB hg; have HS3 := Lib.hid (HS2.out.new hb hB hg); clear hb hB hg HS2)
          | (have hq := HS3; clear hq; (with_reducible refine atStore ?_); refine wpList_store_at rfl 24 _ _ rfl (HS3.out.at_ 1 rfl) (akV x) rfl rfl (by kernel_rfl) (Nat.le_of_ble_eq_true rfl) (by kernel_rfl) ?_; intro W4 hB hP; have HS4 := Lib.hid (HS3.out.put 1 rfl (new := (akA x)) hB hP); clear hB hP HS3; obtain ⟨r1a, r1b, r1c⟩ := HS4.out.rules 1 rfl))
        refine (add_l g b half L x.n x.am x.now _ (HS4.out.ok 0 _ rfl) HI.out.ok HX.out.1).mono ?_
        rintro e W5 ⟨rfl, hM⟩
        have HS5 := Lib.hid (HS4.out.call 0 rfl hM)
        clear hM HS4 r1a r1b r1c
        by_cases c1 : addE L x.n x.am x.now = 0
        · obtain ⟨r1a, r1b, r1c⟩ := HS5.out.rules 1 rfl
          go_wp2_with fail
          refine ⟨⟨k + 1, _, (max last x.now), by omega, by go_num, rfl, Lib.hid (HI.out.yes c1), ?_⟩, by simp [intOf]; omega⟩
          exact Lib.hid (Ms.cut (l := [ldP g b half (addL half L x.n x.am x.now)]) (k := [(.blk g3 24 (akA x))]) HS5.out)
        · go_wp2_with fail
          refine ⟨⟨k + 1, _, last, by omega, by go_num, rfl, Lib.hid (HI.out.no c1), ?_⟩, by simp [intOf]; omega⟩
          exact Lib.hid (Ms.cut (l := [ldP g b half (addL half L x.n x.am x.now)]) (k := [(.blk g3 24 (akA x))]) HS5.out)
      · obtain rfl : k = min n 300 := by omega
        have hLI : (L.length : Int) ≤ 1024 := by have := HI.out.ok.len; omega
        go_wp2_with fail
        refine (users_c g b half L _ (Own.ldR_ (HS2.out.ok 0 _ rfl) HI.out.ok)).mono ?_
        rintro e W3 ⟨A2, c2, rfl, hM⟩
        have HS3 := Lib.hid (HS2.out.made hM)
        clear hM HS2
        by_cases c7 : (7 : Int) < (L.length : Int)
        · go_wp2_with fail
          refine (alive_c _).mono ?_
          rintro e W4 ⟨rfl, hb⟩
          have HS4 := Lib.hid (HS3.out.after hb)
          clear hb HS3
          go_wp2_with fail
          go_ret
          exact ⟨rfl, HS4.out.below⟩
        · go_wp2_with fail
          have H7 := Lib.hid (show L.length ≤ 7 by omega)
          go_loopw [10, 11, 62] (fun s t k wr => ∃ (kk : Nat), kk ≤ L.length ∧ s = .int .i64 (sumN (fun u => usedV half L u last) L kk) ∧ t = .int .i64 (sumN (fun u => facV half L u last) L kk) ∧ k = .int .i64 (kk : Nat) ∧ Hid (Ms w noB [ldP g b half L, nmR A2 c2 (names L)] wr)) (fun _ _ k _ => L.length - (intOf k).toNat)
          case atStart => exact ⟨0, by omega, rfl, rfl, rfl, HS3⟩
          case round =>
            obtain ⟨k2, hkm, rfl, rfl, rfl, HS4⟩ := hrel
            have hkI : (k2 : Int) ≤ (L.length : Int) := by omega
            have k7 : (k2 : Int) ≤ 7 := by have := H7.out; omega
            have bS := sumN_bounds (f := fun u => usedV half L u last) (fun u => HI.out.ok.used u last) L k2 hkm
            have bF := sumN_bounds (f := fun u => facV half L u last) (fun u => fac_bounds HI.out.ok u last) L k2 hkm
            by_cases hlt : k2 < L.length
            · have hltI : (k2 : Int) < (L.length : Int) := by omega
              obtain ⟨ad, u, hAe, hu, hc⟩ := nm_at (nmR_read (HS4.out.ok 1 _ rfl)) hlt
              subst hAe
              have HUL := Lib.hid (show u.length ≤ maxLen by have := names_le HI.out.ok (List.mem_of_getElem? hu); simp only [maxLen]; omega)
              have HE := Lib.hid (user_ok HI.out.upto HI.out.lo HI.out.hi u)
              have bU := HI.out.ok.used u last
              have bV := fac_bounds HI.out.ok u last
              have HQ1 := Lib.hid (sumN_step (fun u => usedV half L u last) L hu)
              have HQ2 := Lib.hid (sumN_step (fun u => facV half L u last) L hu)
              clear hu
              obtain ⟨S0, hS0⟩ : ∃ q, q = sumN (fun u => usedV half L u last) L k2 := ⟨_, rfl⟩
              obtain ⟨F0, hF0⟩ : ∃ q, q = sumN (fun u => facV half L u last) L k2 := ⟨_, rfl⟩
              obtain ⟨U0, hU0⟩ : ∃ q, q = usedV half L u last := ⟨_, rfl⟩
              obtain ⟨V0, hV0⟩ : ∃ q, q = facV half L u last := ⟨_, rfl⟩
              rw [← hS0] at bS
              rw [← hF0] at bF
              rw [← hU0] at bU
              rw [← hV0] at bV
              have wS : IntKind.i64.wrap (S0 + U0) = S0 + U0 := wrap_small (by omega) (by omega)
              have wF : IntKind.i64.wrap (F0 + V0) = F0 + V0 := wrap_small (by omega) (by omega)
              have HR1 := Lib.hid (show S0 + U0 = sumN (fun u => usedV half L u last) L (k2 + 1) by rw [HQ1.out, ← hS0, ← hU0])
              have HR2 := Lib.hid (show F0 + V0 = sumN (fun u => facV half L u last) L (k2 + 1) by rw [HQ2.out, ← hF0, ← hV0])
              rw [← hS0, ← hF0]
              have HS0_ := Lib.hid hU0
              have HV0 := Lib.hid hV0
              clear hS0 hF0 hU0 hV0 bS bF bU bV
              go_wp2_with fail
              refine (used_c g b half L u last _ (Own.ldR_ (HS4.out.ok 0 _ rfl) HI.out.ok) HUL.out).mono ?_
              rintro e W5 ⟨rfl, hb⟩
              have HS5 := Lib.hid (HS4.out.after hb)
              clear hb HS4
              rw [HE.out, ← HS0_.out]
              go_wp2_with fail
              refine (fac_c g b half L u last _ (Own.ldR_ (HS5.out.ok 0 _ rfl) HI.out.ok) HUL.out).mono ?_
              rintro e W6 ⟨rfl, hb⟩
              have HS6 := Lib.hid (HS5.out.after hb)
              clear hb HS5
              rw [HE.out, ← HV0.out]
              go_wp2_with fail
              refine ⟨⟨k2 + 1, by omega, by rw [HR1.out], by rw [HR2.out], by go_num, ?_⟩, by simp [intOf]; omega⟩
              exact HS6
            · obtain rfl : k2 = L.length := by omega
              have HTS := Lib.hid (tot_sum HI.out H7.out)
              have HE1 := Lib.hid (show totE last = 0 by unfold totE; rw [if_pos ⟨HI.out.lo, HI.out.hi⟩])
              have hz := part_zero HI.out
              have hp := part_sum HI.out H7.out
              rw [← HTS.out]
              rw [← HTS.out] at bS
              obtain ⟨T, hT⟩ : ∃ q, q = totV half L last := ⟨_, rfl⟩
              obtain ⟨F, hF⟩ : ∃ q, q = sumN (fun u => facV half L u last) L L.length := ⟨_, rfl⟩
              rw [← hT] at hz hp bS ⊢
              rw [← hF] at hz hp bF ⊢
              have HT := Lib.hid hT
              clear hT hF
              have w1 : IntKind.i64.wrap (1000 * (L.length : Int)) = 1000 * (L.length : Int) := wrap_small (by omega) (by omega)
              have w2 : IntKind.i64.wrap ((L.length : Int) - 1) = (L.length : Int) - 1 := wrap_small (by omega) (by omega)
              have w3 : IntKind.i64.wrap (1000 * ((L.length : Int) - 1)) = 1000 * ((L.length : Int) - 1) := wrap_small (by omega) (by omega)
              have w4 : IntKind.i64.wrap (1000 * ((L.length : Int) - 1) - (L.length : Int)) = 1000 * ((L.length : Int) - 1) - (L.length : Int) := wrap_small (by omega) (by omega)
              clear bS bF
              by_cases cz : T = 0
              · have hz1 := hz cz
                clear hz hp
                subst hz1
                go_wp2_with fail
                refine (tot_c g b half L last _ (Own.ldR_ (HS4.out.ok 0 _ rfl) HI.out.ok)).mono ?_
                rintro e W5 ⟨rfl, hb⟩
                have HS5 := Lib.hid (HS4.out.after hb)
                clear hb HS4
                rw [HE1.out, ← HT.out]
                go_wp2_with fail
                refine (alive_c _).mono ?_
                rintro e W6 ⟨rfl, hb⟩
                have HS6 := Lib.hid (HS5.out.after hb)
                clear hb HS5
                go_wp2_with fail
                go_ret
                exact ⟨rfl, HS6.out.below⟩
              · obtain ⟨hp1, hp2⟩ := hp cz
                clear hz hp
                go_wp2_with fail
                refine (tot_c g b half L last _ (Own.ldR_ (HS4.out.ok 0 _ rfl) HI.out.ok)).mono ?_
                rintro e W5 ⟨rfl, hb⟩
                have HS5 := Lib.hid (HS4.out.after hb)
                clear hb HS4
                rw [HE1.out, ← HT.out]
                go_wp2_with fail
                refine (alive_c _).mono ?_
                rintro e W6 ⟨rfl, hb⟩
                have HS6 := Lib.hid (HS5.out.after hb)
                clear hb HS5
                go_wp2_with fail
                go_ret
                exact ⟨rfl, HS6.out.below⟩
  · go_wp2_with fail
    refine (new_n half _ (by omega)).mono ?_
    rintro e W1 ⟨rfl, hb⟩
    have HS1 := Lib.hid (HS0.out.after hb)
    clear hb HS0
    go_wp2_with fail
    refine (alive_c _).mono ?_
    rintro e W2 ⟨rfl, hb⟩
    have HS2 := Lib.hid (HS1.out.after hb)
    clear hb HS1
    go_wp2_with fail
    go_ret
    exact ⟨rfl, HS2.out.below⟩
end Go.Proofs.Ytflgnlpippjhcaa
