/- Share: ShareFalls. -/
import Derived.Test.YtflgnlpippjhcaaU9
set_option linter.unusedVariables false
set_option maxRecDepth 100000
namespace Go.Proofs.Ytflgnlpippjhcaa
open Go.RowKit Go.Sort Go.Maps

theorem addr_zero (a : Addr) : a.add 0 = a := by unfold Addr.add; split <;> simp_all
theorem nm_at {w : World} {A : Option Addr} {n : Nat} {ns : List Nm} (h : RdS 1 nmL w A n ns) {i : Nat} (hi : i < n) : ∃ ad u, A = some ad ∧ ns[i]? = some u ∧ w.cell? (ad.add i) = some (str u) := by
  obtain ⟨ad, u, e, hu, hc⟩ := h.at_ hi
  have := hc 0 _ rfl
  rw [addr_zero, Nat.mul_one] at this
  exact ⟨ad, u, e, hu, this⟩
theorem names_le {half : Int} {L : Led} (h : LOk half L) {u : Nm} (hu : u ∈ names L) : u.length ≤ 16 := by
  obtain ⟨p, hp, rfl⟩ := List.mem_map.1 hu
  exact (h.nm p hp).2
/-- What holds behind a script. -/
structure Inv (half : Int) (L : Led) (last : Int) : Prop where
  ok : LOk half L
  upto : Upto L last
  lo : 0 ≤ last
  hi : last ≤ 1099511627776
theorem inv_new {half : Int} (h : 1 ≤ half ∧ half ≤ 1000000) : Inv half [] 0 := ⟨new_ok h, fun p hp => (by cases hp), by omega, by omega⟩
theorem Inv.yes {half : Int} {L : Led} {last : Int} (h : Inv half L last) {n : Nm} {am now : Int} (he : addE L n am now = 0) : Inv half (addL half L n am now) (max last now) := by
  have := upto_add h.ok (n := n) (amount := am) (now := now) h.upto
  rw [if_pos he] at this
  have h1 := add_time he
  exact ⟨addL_ok h.ok n am now, this, by have := h.lo; omega, by have := h.hi; omega⟩
theorem Inv.no {half : Int} {L : Led} {last : Int} (h : Inv half L last) {n : Nm} {am now : Int} (he : ¬ addE L n am now = 0) : Inv half (addL half L n am now) last := by
  have := upto_add h.ok (n := n) (amount := am) (now := now) h.upto
  rw [if_neg he] at this
  exact ⟨addL_ok h.ok n am now, this, h.lo, h.hi⟩
set_option maxHeartbeats 16000000 in
theorem shareFalls_w (half : Int) (A : Option Addr) (n c : Nat) (acts : List Ak) (x0 y0 z0 : Int) (w : World) (hA : RdS 3 akL w A n acts) (h1 : n ≤ c) (h2 : c ≤ maxLen) (hB : ∀ x ∈ acts, AkOk x) :
    Calls Try.prog 4 #[.int .i64 half, .slice A n c, .agg #[.int .i64 x0, .int .i64 y0, .int .i64 z0]] w fun e w' => e = .returned (.bool true) ∧ Below w.heap.size w w' := by
  have HA := Lib.hid hA
  have HB := Lib.hid hB
  have HN1 := Lib.hid h1
  have HN2 := Lib.hid h2
  clear hA hB h1 h2
  go_enter Try.func4, Try.ntmps4
  have HS0 := Lib.hid (Ms.nil w noB)
  by_cases hh : 1 ≤ half ∧ half ≤ 1000000
  · have HH := Lib.hid hh
    clear hh
    go_wp2_with (have hq := HS0; clear hq; (with_reducible refine atBox ?_); refine wpList_alloc_b rfl (some 5) rfl 49 (#[.int .i64 x0, .int .i64 y0, .int .i64 z0]) (by kernel_rfl) ?_; intro g1 W1 hb hB hg; have HS1 := Lib.hid (HS0.out.new hb hB hg); clear hb hB hg HS0)
    refine (new_y half _ HH.out.1 HH.out.2).mono ?_
    rintro e W2 ⟨g, b, rfl, hM⟩
    have HS2 := Lib.hid (HS1.out.made hM)
    clear hM HS1
    go_wp2_with fail
    refine (short_c A n c _ HN1.out HN2.out).mono ?_
    rintro e w' ⟨rfl, rfl⟩
    go_wp2_with fail
    go_loopw [9, 41] (fun l k wr => ∃ (kk : Nat) (L : Led) (last : Int), kk ≤ min n 300 ∧ k = .int .i64 (kk : Nat) ∧ l = .int .i64 last ∧ Hid (Inv half L last) ∧ Hid (Ms w noB [(.blk g1 49 #[.int .i64 x0, .int .i64 y0, .int .i64 z0]), ldP g b half L] wr)) (fun _ k _ => min n 300 - (intOf k).toNat)
    case atStart => exact ⟨0, _, _, by omega, rfl, rfl, Lib.hid (inv_new HH.out), HS2⟩
    case round =>
      obtain ⟨k, L, last, hkm, rfl, rfl, HI, HS3⟩ := hrel
      have hkI : (k : Int) ≤ ((min n 300 : Nat) : Int) := by omega
      by_cases hlt : k < min n 300
      · have hltI : (k : Int) < ((min n 300 : Nat) : Int) := by omega
        obtain ⟨ad, x, rfl, hx, hc⟩ := HA.out.at_ (i := k) (by omega)
        have HX := Lib.hid (HB.out x (List.mem_of_getElem? hx))
        have HC := Lib.hid (fun j v hv => (HS3.out.below.cell (block_lt_of_cell (hc j v hv))).trans (hc j v hv))
        clear hc hx
        go_wp2_with (first
          | (have hq := HC; clear hq; refine wpList_load_ad (by kernel_rfl) 24 _ rfl (ad.add (k * 3)) (akL x) HC.out rfl _ (akV x) rfl Try.underlying24 rfl (by kernel_rfl) ?_; clear HC)
          | (have hq := HS3; clear hq; (with_reducible refine atAlloc ?_); refine wpList_alloc_b rfl (some 11) rfl 24 (#[.string .empty, .int .i64 0, .int .i64 0]) (by kernel_rfl) ?_; intro g4 W4 hb hB hg; have HS4 := Lib.hid (HS3.out.new hb hB hg); clear hb hB hg HS3)
          | (have hq := HS4; clear hq; (with_reducible refine atStore ?_); refine wpList_store_at rfl 24 _ _ rfl (HS4.out.at_ 2 rfl) (akV x) rfl rfl (by kernel_rfl) (Nat.le_of_ble_eq_true rfl) (by kernel_rfl) ?_; intro W5 hB hP; have HS5 := Lib.hid (HS4.out.put 2 rfl (new := (akA x)) hB hP); clear hB hP HS4; obtain ⟨r2a, r2b, r2c⟩ := HS5.out.rules 2 rfl))
        refine (add_l g b half L x.n x.am x.now _ (HS5.out.ok 1 _ rfl) HI.out.ok HX.out.1).mono ?_
        rintro e W6 ⟨rfl, hM⟩
        have HS6 := Lib.hid (HS5.out.call 1 rfl hM)
        clear hM HS5 r2a r2b r2c
        by_cases c1 : addE L x.n x.am x.now = 0
        · obtain ⟨r2a, r2b, r2c⟩ := HS6.out.rules 2 rfl
          go_wp2_with fail
          refine ⟨⟨k + 1, _, (max last x.now), by omega, by go_num, rfl, Lib.hid (HI.out.yes c1), ?_⟩, by simp [intOf]; omega⟩
          exact Lib.hid (Ms.cut (l := [(.blk g1 49 #[.int .i64 x0, .int .i64 y0, .int .i64 z0]), ldP g b half (addL half L x.n x.am x.now)]) (k := [(.blk g4 24 (akA x))]) HS6.out)
        · go_wp2_with fail
          refine ⟨⟨k + 1, _, last, by omega, by go_num, rfl, Lib.hid (HI.out.no c1), ?_⟩, by simp [intOf]; omega⟩
          exact Lib.hid (Ms.cut (l := [(.blk g1 49 #[.int .i64 x0, .int .i64 y0, .int .i64 z0]), ldP g b half (addL half L x.n x.am x.now)]) (k := [(.blk g4 24 (akA x))]) HS6.out)
      · obtain rfl : k = min n 300 := by omega
        obtain ⟨now, hnow⟩ : ∃ q, q = last + max (x0.tmod 1000) 0 := ⟨_, rfl⟩
        obtain ⟨later, hlater⟩ : ∃ q, q = now + max (y0.tmod 5000) 0 := ⟨_, rfl⟩
        have tx : x0.tmod 1000 < 1000 := Int.tmod_lt_of_pos _ (by omega)
        have ty : y0.tmod 5000 < 5000 := Int.tmod_lt_of_pos _ (by omega)
        have hl1 := HI.out.lo
        have hl2 := HI.out.hi
        have wN : IntKind.i64.wrap (last + max (x0.tmod 1000) 0) = now := by rw [hnow]; exact wrap_small (by omega) (by omega)
        have wL : IntKind.i64.wrap (now + max (y0.tmod 5000) 0) = later := by rw [hlater]; exact wrap_small (by omega) (by omega)
        have wH : IntKind.i64.wrap (now + half) = now + half := wrap_small (by have := HH.out.1; omega) (by have := HH.out.2; omega)
        have HNOW := Lib.hid (show last ≤ now by omega)
        have HLAT := Lib.hid (show now ≤ later by omega)
        clear hnow hlater tx ty hl1 hl2 hlt hkm hkI
        by_cases c2 : 549755813888 < later
        · obtain ⟨r0a, r0b, r0c⟩ := HS3.out.rules 0 rfl
          go_wp2_with fail
          refine (alive_c _).mono ?_
          rintro e W4 ⟨rfl, hb⟩
          have HS4 := Lib.hid (HS3.out.after hb)
          clear hb HS3 r0a r0b r0c
          go_wp2_with fail
          go_ret
          exact ⟨rfl, HS4.out.below⟩
        · have HU := Lib.hid (HI.out.upto.mono HNOW.out)
          have HL0 := Lib.hid (Int.le_trans HI.out.lo HNOW.out)
          have HLF := Lib.hid (fun u => law_falls (later := later) HI.out.ok HU.out HL0.out HLAT.out (by omega) (by have := HH.out.2; have := HLAT.out; omega) u)
          obtain ⟨r0a, r0b, r0c⟩ := HS3.out.rules 0 rfl
          go_wp2_with fail
          refine (users_c g b half L _ (Own.ldR_ (HS3.out.ok 1 _ rfl) HI.out.ok)).mono ?_
          rintro e W4 ⟨A2, c2, rfl, hM⟩
          have HS4 := Lib.hid (HS3.out.made hM)
          clear hM HS3 r0a r0b r0c
          go_wp2_with fail
          go_loopw [77] (fun k wr => ∃ (kk : Nat), kk ≤ L.length ∧ k = .int .i64 (kk : Nat) ∧ Hid (Ms w noB [(.blk g1 49 #[.int .i64 x0, .int .i64 y0, .int .i64 z0]), ldP g b half L, nmR A2 c2 (names L)] wr)) (fun k _ => L.length - (intOf k).toNat)
          case atStart => exact ⟨0, by omega, rfl, HS4⟩
          case round =>
            obtain ⟨k2, hkm, rfl, HS5⟩ := hrel
            have hkI : (k2 : Int) ≤ (L.length : Int) := by omega
            have hLI : (L.length : Int) ≤ 1024 := by have := HI.out.ok.len; omega
            by_cases hlt : k2 < L.length
            · have hltI : (k2 : Int) < (L.length : Int) := by omega
              obtain ⟨ad, u, hAe, hu, hc⟩ := nm_at (nmR_read (HS5.out.ok 2 _ rfl)) hlt
              subst hAe
              have HUL := Lib.hid (show u.length ≤ maxLen by have := names_le HI.out.ok (List.mem_of_getElem? hu); simp only [maxLen]; omega)
              clear hu
              obtain ⟨e1, e2, e3, e4, e5, e6⟩ := HLF.out u
              have EE := Lib.hid (And.intro e1 (And.intro e2 e3))
              obtain ⟨U1, hU1⟩ : ∃ q, q = usedV half L u now := ⟨_, rfl⟩
              obtain ⟨U2, hU2⟩ : ∃ q, q = usedV half L u later := ⟨_, rfl⟩
              obtain ⟨U3, hU3⟩ : ∃ q, q = usedV half L u (now + half) := ⟨_, rfl⟩
              rw [← hU1] at e4 e5 e6
              rw [← hU2] at e4
              rw [← hU3] at e6
              have b1 := (HI.out.ok.used u now).2
              rw [← hU1] at b1
              have n1 : ¬ U1 < U2 := by omega
              have n2 : ¬ U1 < 0 := by omega
              have t0 := Int.tdiv_nonneg e5 (show (0:Int) ≤ 2 by omega)
              have t1 := Int.tdiv_le_self 2 e5
              have wQ : IntKind.i64.wrap (U1.tdiv 2) = U1.tdiv 2 := wrap_small (by omega) (by omega)
              clear b1 t0 t1
              have HE := Lib.hid (And.intro hU1 (And.intro hU2 hU3))
              clear e1 e2 e3 hU1 hU2 hU3
              go_wp2_with fail
              refine (used_c g b half L u now _ (Own.ldR_ (HS5.out.ok 1 _ rfl) HI.out.ok) HUL.out).mono ?_
              rintro e W6 ⟨rfl, hb⟩
              have HS6 := Lib.hid (HS5.out.after hb)
              clear hb HS5
              rw [EE.out.1, ← HE.out.1]
              go_wp2_with fail
              refine (used_c g b half L u later _ (Own.ldR_ (HS6.out.ok 1 _ rfl) HI.out.ok) HUL.out).mono ?_
              rintro e W7 ⟨rfl, hb⟩
              have HS7 := Lib.hid (HS6.out.after hb)
              clear hb HS6
              rw [EE.out.2.1, ← HE.out.2.1]
              go_wp2_with fail
              refine (used_c g b half L u (now + half) _ (Own.ldR_ (HS7.out.ok 1 _ rfl) HI.out.ok) HUL.out).mono ?_
              rintro e W8 ⟨rfl, hb⟩
              have HS8 := Lib.hid (HS7.out.after hb)
              clear hb HS7
              rw [EE.out.2.2, ← HE.out.2.2]
              go_wp2_with fail
              refine ⟨⟨k2 + 1, by omega, by go_num, ?_⟩, by simp [intOf]; omega⟩
              exact HS8
            · obtain rfl : k2 = L.length := by omega
              have ht : totV half L later ≤ totV half L now := tot_falls HI.out.ok HU.out HL0.out HLAT.out (by omega)
              have E1 := Lib.hid (show totE now = 0 by unfold totE; rw [if_pos ⟨HL0.out, by have := HLAT.out; omega⟩])
              have E2 := Lib.hid (show totE later = 0 by unfold totE; rw [if_pos ⟨by have := HL0.out; have := HLAT.out; omega, by omega⟩])
              go_wp2_with fail
              refine (tot_c g b half L now _ (Own.ldR_ (HS5.out.ok 1 _ rfl) HI.out.ok)).mono ?_
              rintro e W6 ⟨rfl, hb⟩
              have HS6 := Lib.hid (HS5.out.after hb)
              clear hb HS5
              rw [E1.out]
              go_wp2_with fail
              refine (tot_c g b half L later _ (Own.ldR_ (HS6.out.ok 1 _ rfl) HI.out.ok)).mono ?_
              rintro e W7 ⟨rfl, hb⟩
              have HS7 := Lib.hid (HS6.out.after hb)
              clear hb HS6
              rw [E2.out]
              go_wp2_with fail
              refine (alive_c _).mono ?_
              rintro e W8 ⟨rfl, hb⟩
              have HS8 := Lib.hid (HS7.out.after hb)
              clear hb HS7
              go_wp2_with fail
              go_ret
              exact ⟨rfl, HS8.out.below⟩
  · go_wp2_with (have hq := HS0; clear hq; (with_reducible refine atBox ?_); refine wpList_alloc_b rfl (some 5) rfl 49 (#[.int .i64 x0, .int .i64 y0, .int .i64 z0]) (by kernel_rfl) ?_; intro g1 W1 hb hB hg; have HS1 := Lib.hid (HS0.out.new hb hB hg); clear hb hB hg HS0)
    refine (new_n half _ (by omega)).mono ?_
    rintro e W2 ⟨rfl, hb⟩
    have HS2 := Lib.hid (HS1.out.after hb)
    clear hb HS1
    go_wp2_with fail
    refine (alive_c _).mono ?_
    rintro e W3 ⟨rfl, hb⟩
    have HS3 := Lib.hid (HS2.out.after hb)
    clear hb HS2
    go_wp2_with fail
    go_ret
    exact ⟨rfl, HS3.out.below⟩
end Go.Proofs.Ytflgnlpippjhcaa
