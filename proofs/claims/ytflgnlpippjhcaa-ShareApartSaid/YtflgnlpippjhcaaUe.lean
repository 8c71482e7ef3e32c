/- Share: ShareApart. -/
import Derived.Test.YtflgnlpippjhcaaUc
import Derived.Test.YtflgnlpippjhcaaUi
set_option linter.unusedVariables false
set_option maxRecDepth 100000
namespace Go.Proofs.Ytflgnlpippjhcaa
open Go.RowKit Go.Sort Go.Maps

theorem put_snoc {W : Led} {n : Nm} {a : Ac} (h : ∀ q ∈ W, q.1 < n) : put W n a = W ++ [(n, a)] := by
  induction W with
  | nil => rfl
  | cons x r ih =>
    obtain ⟨m, b⟩ := x
    unfold put
    rw [if_pos (h (m, b) (List.mem_cons_self ..)), ih fun q hq => h q (List.mem_cons_of_mem _ hq)]
    rfl
/-- What was used, of the first k. -/
def wasL (f : Nm → Int) (L : Led) (k : Nat) : Led := (L.take k).map fun p => (p.1, ⟨f p.1, 0⟩)
theorem was_len (f : Nm → Int) {L : Led} {k : Nat} (h : k ≤ L.length) : (wasL f L k).length = k := by simp [wasL, h]
theorem was_ris (f : Nm → Int) {L : Led} (h : Ris L) (k : Nat) : Ris (wasL f L k) := by
  unfold wasL Ris
  rw [List.pairwise_map]
  exact List.Pairwise.sublist (List.take_sublist k L) h
theorem was_put (f : Nm → Int) {L : Led} (h : Ris L) {k : Nat} {u : Nm} (hu : (names L)[k]? = some u) : put (wasL f L k) u ⟨f u, 0⟩ = wasL f L (k + 1) := by
  have hk : k < L.length := by
    have := (List.getElem?_eq_some_iff.1 hu).1
    simpa using this
  have e : u = L[k].1 := by
    have := (List.getElem?_eq_some_iff.1 hu).2
    simpa using this.symm
  rw [put_snoc]
  · unfold wasL
    rw [List.take_succ_eq_append_getElem hk, List.map_append, e]
    rfl
  · intro q hq
    unfold wasL at hq
    obtain ⟨p, hp, rfl⟩ := List.mem_map.1 hq
    obtain ⟨i, hi, rfl⟩ := List.getElem_of_mem hp
    rw [List.length_take] at hi
    rw [List.getElem_take, e]
    exact List.pairwise_iff_getElem.1 h i k _ _ (by omega)
theorem was_look (f : Nm → Int) : ∀ {L : Led} {u : Nm}, u ∈ names L → look (wasL f L L.length) u = some ⟨f u, 0⟩
  | [], u, h => by cases h
  | (m, b) :: r, u, h => by
    show look ((m, ⟨f m, 0⟩) :: wasL f r r.length) u = _
    unfold look
    by_cases e : m = u
    · subst e; rw [if_pos rfl]
    · rw [if_neg e]
      exact was_look f ((List.mem_cons.1 h).resolve_left fun h => e h.symm)
theorem mem_names_of {L : Led} {u : Nm} {a : Ac} (h : look L u = some a) : u ∈ names L := List.mem_map_of_mem (f := (·.1)) (look_mem h)
theorem names_look {L : Led} {u : Nm} (h : u ∈ names L) : ∃ a, look L u = some a := by
  cases hl : look L u with
  | some a => exact ⟨a, rfl⟩
  | none =>
    obtain ⟨p, hp, e⟩ := List.mem_map.1 h
    exact absurd e (look_none.1 hl p hp)
theorem addL_other {half : Int} {L : Led} {n u : Nm} {am now : Int} (h : u ≠ n) : look (addL half L n am now) u = look L u := by
  unfold addL
  split
  · exact look_put_other L _ h
  · rfl
/-- Of another user nothing turns. -/
theorem law_apart {half last : Int} {L : Led} (h : Inv half L last) {n u : Nm} {am now : Int} (hu : u ∈ names (addL half L n am now)) (hne : u ≠ n) :
    userE (addL half L n am now) u last = 0 ∧ (acc (wasL (fun u => usedV half L u last) L L.length) u).has = usedV half (addL half L n am now) u last ∧ (look (wasL (fun u => usedV half L u last) L L.length) u).isSome = true := by
  obtain ⟨a, ha⟩ := names_look hu
  rw [addL_other hne] at ha
  have h1 := was_look (fun u => usedV half L u last) (mem_names_of ha)
  have e1 : acc (addL half L n am now) u = acc L u := by unfold acc; rw [addL_other hne]
  have e2 : userE (addL half L n am now) u last = userE L u last := by unfold userE; rw [e1]
  have e3 : usedV half (addL half L n am now) u last = usedV half L u last := by unfold usedV; rw [e1, e2]
  refine ⟨by rw [e2]; exact user_ok h.upto h.lo h.hi u, ?_, by rw [h1]; rfl⟩
  rw [e3]
  unfold acc
  rw [h1]
  rfl
theorem part_ok {half : Int} {L : Led} (h : LOk half L) (u : Nm) : userE L u 1099511627776 = 0 := userE_zero.2 ⟨⟨by omega, by omega⟩, (h.acc u).t1⟩
set_option maxHeartbeats 16000000 in
theorem shareApart_w (half : Int) (A : Option Addr) (n c : Nat) (acts : List Ak) (a : Ak) (w : World) (hA : RdS 3 akL w A n acts) (h1 : n ≤ c) (h2 : c ≤ maxLen) (hB : ∀ x ∈ acts, AkOk x) (ha : AkOk a) :
    Calls Try.prog 5 #[.int .i64 half, .slice A n c, akV a] w fun e w' => e = .returned (.bool true) ∧ Below w.heap.size w w' := by
  have HAk := Lib.hid ha
  clear ha
  have HA := Lib.hid hA
  have HB := Lib.hid hB
  have HN1 := Lib.hid h1
  have HN2 := Lib.hid h2
  clear hA hB h1 h2
  go_enter Try.func5, Try.ntmps5
  have HS0 := Lib.hid (Ms.nil w noB)
  by_cases hh : 1 ≤ half ∧ half ≤ 1000000
  · have HH := Lib.hid hh
    clear hh
    go_wp2_with (have hq := HS0; clear hq; (with_reducible refine atBox ?_); refine wpList_alloc_b rfl (some 5) rfl 24 ((akA a)) (by kernel_rfl) ?_; intro g1 W1 hb hB hg; have HS1 := Lib.hid (HS0.out.new hb hB hg); clear hb hB hg HS0)
    refine (new_y half _ HH.out.1 HH.out.2).mono ?_
    rintro e W2 ⟨g, b, rfl, hM⟩
    have HS2 := Lib.hid (HS1.out.made hM)
    clear hM HS1
    go_wp2_with fail
    refine (short_c A n c _ HN1.out HN2.out).mono ?_
    rintro e w' ⟨rfl, rfl⟩
    go_wp2_with fail
    go_loopw [9, 38] (fun l k wr => ∃ (kk : Nat) (L : Led) (last : Int), kk ≤ min n 300 ∧ k = .int .i64 (kk : Nat) ∧ l = .int .i64 last ∧ Hid (Inv half L last) ∧ Hid (Ms w noB [(.blk g1 24 (akA a)), ldP g b half L] wr)) (fun _ k _ => min n 300 - (intOf k).toNat)
    case atStart => exact ⟨0, _, _, by omega, rfl, rfl, Lib.hid (inv_new HH.out), HS2⟩
    case round =>
      obtain ⟨k, L, last, hkm, rfl, rfl, HI, HS3⟩ := hrel
      have hkI : (k : Int) ≤ ((min n 300 : Nat) : Int) := by omega
      by_cases hlt : k < min n 300
      · have hltI : (k : Int) < ((min n 300 : Nat) : Int) := by omega
        obtain ⟨ad, x, rfl, hx, hc⟩ := HA.out.at_ (i := k) (by omega)
        have HX := Lib.hid (HB.out x (List.mem_of_getElem? hx))
        have HC := Lib.hid (fun j v hv => (HS3.out.below.cell (block_lt_of_cell (hc j v hv))).trans (hc j v hv))
        clear hc hx
        go_wp2_with (first
          | (have hq := HC; clear hq; refine wpList_load_ad (by kernel_rfl) 24 _ rfl (ad.add (k * 3)) (akL x) HC.out rfl _ (akV x) rfl Try.underlying24 rfl (by kernel_rfl) ?_; clear HC)
          | (have hq := HS3; clear hq; (with_reducible refine atAlloc ?_); refine wpList_alloc_b rfl (some 11) rfl 24 (#[.string .empty, .int .i64 0, .int .i64 0]) (by kernel_rfl) ?_; intro g4 W4 hb hB hg; have HS4 := Lib.hid (HS3.out.new hb hB hg); clear hb hB hg HS3)
          | (have hq := HS4; clear hq; (with_reducible refine atStore ?_); refine wpList_store_at rfl 24 _ _ rfl (HS4.out.at_ 2 rfl) (akV x) rfl rfl (by kernel_rfl) (Nat.le_of_ble_eq_true rfl) (by kernel_rfl) ?_; intro W5 hB hP; have HS5 := Lib.hid (HS4.out.put 2 rfl (new := (akA x)) hB hP); clear hB hP HS4; obtain ⟨r2a, r2b, r2c⟩ := HS5.out.rules 2 rfl))
        refine (add_l g b half L x.n x.am x.now _ (HS5.out.ok 1 _ rfl) HI.out.ok HX.out.1).mono ?_
        rintro e W6 ⟨rfl, hM⟩
        have HS6 := Lib.hid (HS5.out.call 1 rfl hM)
        clear hM HS5 r2a r2b r2c
        by_cases c1 : addE L x.n x.am x.now = 0
        · obtain ⟨r2a, r2b, r2c⟩ := HS6.out.rules 2 rfl
          go_wp2_with fail
          refine ⟨⟨k + 1, _, (max last x.now), by omega, by go_num, rfl, Lib.hid (HI.out.yes c1), ?_⟩, by simp [intOf]; omega⟩
          exact Lib.hid (Ms.cut (l := [(.blk g1 24 (akA a)), ldP g b half (addL half L x.n x.am x.now)]) (k := [(.blk g4 24 (akA x))]) HS6.out)
        · go_wp2_with fail
          refine ⟨⟨k + 1, _, last, by omega, by go_num, rfl, Lib.hid (HI.out.no c1), ?_⟩, by simp [intOf]; omega⟩
          exact Lib.hid (Ms.cut (l := [(.blk g1 24 (akA a)), ldP g b half (addL half L x.n x.am x.now)]) (k := [(.blk g4 24 (akA x))]) HS6.out)
      · obtain rfl : k = min n 300 := by omega
        have hLI : (L.length : Int) ≤ 1024 := by have := HI.out.ok.len; omega
        go_wp2_with (have hq := HS3; clear hq; refine wpList_makeMi HS3.out rfl (some 56) rfl (by kernel_rfl) ?_; intro bm W4 hM; have HS4 := Lib.hid hM; clear hM HS3)
        refine (users_c g b half L _ (Own.ldR_ (HS4.out.ok 1 _ rfl) HI.out.ok)).mono ?_
        rintro e W5 ⟨A2, c2, rfl, hM⟩
        have HS5 := Lib.hid (HS4.out.made hM)
        clear hM HS4
        go_wp2_with fail
        go_loopw [60] (fun k wr => ∃ (kk : Nat), kk ≤ L.length ∧ k = .int .i64 (kk : Nat) ∧ Hid (Ms w noB [(.blk g1 24 (akA a)), ldP g b half L, .mi bm (wasL (fun u => usedV half L u last) L kk), nmR A2 c2 (names L)] wr)) (fun k _ => L.length - (intOf k).toNat)
        case atStart => exact ⟨0, by omega, rfl, HS5⟩
        case round =>
          obtain ⟨k2, hkm, rfl, HS6⟩ := hrel
          have hkI : (k2 : Int) ≤ (L.length : Int) := by omega
          by_cases hlt : k2 < L.length
          · have hltI : (k2 : Int) < (L.length : Int) := by omega
            obtain ⟨ad, u, hAe, hu, hc⟩ := nm_at (nmR_read (HS6.out.ok 3 _ rfl)) hlt
            subst hAe
            have HUL := Lib.hid (show u.length ≤ maxLen by have := names_le HI.out.ok (List.mem_of_getElem? hu); simp only [maxLen]; omega)
            have HPU := Lib.hid (was_put (fun u => usedV half L u last) HI.out.ok.ris hu)
            have HWL := Lib.hid (show (wasL (fun u => usedV half L u last) L k2).length < maxLen by rw [was_len _ hkm]; simp only [maxLen]; omega)
            have HE := Lib.hid (user_ok HI.out.upto HI.out.lo HI.out.hi u)
            clear hu
            go_wp2_with fail
            refine (used_c g b half L u last _ (Own.ldR_ (HS6.out.ok 1 _ rfl) HI.out.ok) HUL.out).mono ?_
            rintro e W7 ⟨rfl, hb⟩
            have HS7 := Lib.hid (HS6.out.after hb)
            clear hb HS6
            rw [HE.out]
            go_wp2_with (have hq := HS7; clear hq; refine wpList_putMi HS7.out 2 rfl rfl _ _ _ 51 Try.underlying51 rfl u (usedV half L u last) rfl rfl rfl HUL.out (was_ris _ HI.out.ok.ris k2) HWL.out _ HPU.out ?_; intro W8 hM; have HS8 := Lib.hid hM; clear hM HS7)
            refine ⟨⟨k2 + 1, by omega, by go_num, ?_⟩, by simp [intOf]; omega⟩
            exact HS8
          · obtain rfl : k2 = L.length := by omega
            clear hlt hkm hkI hLI
            obtain ⟨r0a, r0b, r0c⟩ := HS6.out.rules 0 rfl
            go_wp2_with fail
            refine (add_l g b half L a.n a.am a.now _ (HS6.out.ok 1 _ rfl) HI.out.ok HAk.out.1).mono ?_
            rintro e W7 ⟨rfl, hM⟩
            have HS7 := Lib.hid (HS6.out.call 1 rfl hM)
            clear hM HS6 r0a r0b r0c
            have HOK2 := Lib.hid (addL_ok HI.out.ok a.n a.am a.now)
            have HAP := Lib.hid (fun u hu hne => law_apart HI.out (n := a.n) (am := a.am) (now := a.now) (u := u) hu hne)
            obtain ⟨L2, hL2⟩ : ∃ q, q = (addL half L a.n a.am a.now) := ⟨_, rfl⟩
            rw [← hL2] at HOK2 HAP HS7
            clear hL2
            have hLI : (L2.length : Int) ≤ 1024 := by have := HOK2.out.len; omega
            go_wp2_with fail
            refine (users_c g b half L2 _ (Own.ldR_ (HS7.out.ok 1 _ rfl) HOK2.out)).mono ?_
            rintro e W8 ⟨A3, c3, rfl, hM⟩
            have HS8 := Lib.hid (HS7.out.made hM)
            clear hM HS7
            go_wp2_with fail
            go_loopw [85] (fun k wr => ∃ (kk : Nat), kk ≤ L2.length ∧ k = .int .i64 (kk : Nat) ∧ Hid (Ms w noB [(.blk g1 24 (akA a)), ldP g b half L2, .mi bm (wasL (fun u => usedV half L u last) L L.length), nmR A2 c2 (names L), nmR A3 c3 (names L2)] wr)) (fun k _ => L2.length - (intOf k).toNat)
            case atStart => exact ⟨0, by omega, rfl, HS8⟩
            case round =>
              obtain ⟨k3, hkm, rfl, HS9⟩ := hrel
              have hkI : (k3 : Int) ≤ (L2.length : Int) := by omega
              by_cases hlt : k3 < L2.length
              · have hltI : (k3 : Int) < (L2.length : Int) := by omega
                obtain ⟨ad, u, hAe, hu, hc⟩ := nm_at (nmR_read (HS9.out.ok 4 _ rfl)) hlt
                subst hAe
                have HUL := Lib.hid (show u.length ≤ maxLen by have := names_le HOK2.out (List.mem_of_getElem? hu); simp only [maxLen]; omega)
                have hap := HAP.out u (List.mem_of_getElem? hu)
                clear hu
                have bP := fac_bounds HOK2.out u 1099511627776
                obtain ⟨N0, hN0⟩ : ∃ q, q = usedV half L2 u last := ⟨_, rfl⟩
                obtain ⟨F0, hF0⟩ : ∃ q, q = userE L2 u last := ⟨_, rfl⟩
                obtain ⟨P0, hP0⟩ : ∃ q, q = facV half L2 u 1099511627776 := ⟨_, rfl⟩
                obtain ⟨X0, hX0⟩ : ∃ q, q = (acc (wasL (fun u => usedV half L u last) L L.length) u).has := ⟨_, rfl⟩
                obtain ⟨R0, hR0⟩ : ∃ q, q = (look (wasL (fun u => usedV half L u last) L L.length) u).isSome := ⟨_, rfl⟩
                rw [← hF0, ← hX0, ← hN0, ← hR0] at hap
                rw [← hP0] at bP
                have HN0 := Lib.hid hN0
                have HF0 := Lib.hid hF0
                have HP0 := Lib.hid hP0
                have HX0 := Lib.hid hX0.symm
                have HR0 := Lib.hid hR0.symm
                clear hN0 hF0 hP0 hX0 hR0
                have HPE := Lib.hid (part_ok HOK2.out u)
                obtain ⟨p1, p2⟩ := bP
                have p1n : ¬ P0 < 0 := by omega
                have p2n : ¬ 1000 < P0 := by omega
                by_cases cu : u = a.n
                · clear hap
                  subst cu
                  go_wp2_with fail
                  refine (used_c g b half L2 a.n last _ (Own.ldR_ (HS9.out.ok 1 _ rfl) HOK2.out) HUL.out).mono ?_
                  rintro e W10 ⟨rfl, hb⟩
                  have HS10 := Lib.hid (HS9.out.after hb)
                  clear hb HS9
                  rw [← HN0.out, ← HF0.out]
                  go_wp2_with (have hq := HS10; clear hq; refine wpList_lookMi (HS10.out.ok 2 _ rfl) (by kernel_rfl) _ _ 51 Try.underlying51 rfl a.n rfl rfl HUL.out X0 R0 HX0.out HR0.out ?_)
                  refine (fac_c g b half L2 a.n 1099511627776 _ (Own.ldR_ (HS10.out.ok 1 _ rfl) HOK2.out) HUL.out).mono ?_
                  rintro e W11 ⟨rfl, hb⟩
                  have HS11 := Lib.hid (HS10.out.after hb)
                  clear hb HS10
                  rw [HPE.out, ← HP0.out]
                  obtain ⟨r0a, r0b, r0c⟩ := HS11.out.rules 0 rfl
                  go_wp2_with fail
                  refine ⟨⟨k3 + 1, by omega, by go_num, ?_⟩, by simp [intOf]; omega⟩
                  exact HS11
                · obtain ⟨h1, h2, h3⟩ := hap cu
                  clear hap
                  go_wp2_with fail
                  refine (used_c g b half L2 u last _ (Own.ldR_ (HS9.out.ok 1 _ rfl) HOK2.out) HUL.out).mono ?_
                  rintro e W10 ⟨rfl, hb⟩
                  have HS10 := Lib.hid (HS9.out.after hb)
                  clear hb HS9
                  rw [← HN0.out, ← HF0.out]
                  go_wp2_with (have hq := HS10; clear hq; refine wpList_lookMi (HS10.out.ok 2 _ rfl) (by kernel_rfl) _ _ 51 Try.underlying51 rfl u rfl rfl HUL.out X0 R0 HX0.out HR0.out ?_)
                  refine (fac_c g b half L2 u 1099511627776 _ (Own.ldR_ (HS10.out.ok 1 _ rfl) HOK2.out) HUL.out).mono ?_
                  rintro e W11 ⟨rfl, hb⟩
                  have HS11 := Lib.hid (HS10.out.after hb)
                  clear hb HS10
                  rw [HPE.out, ← HP0.out]
                  obtain ⟨r0a, r0b, r0c⟩ := HS11.out.rules 0 rfl
                  go_wp2_with fail
                  refine ⟨⟨k3 + 1, by omega, by go_num, ?_⟩, by simp [intOf]; omega⟩
                  exact HS11
              · go_wp2_with fail
                refine (alive_c _).mono ?_
                rintro e W10 ⟨rfl, hb⟩
                have HS10 := Lib.hid (HS9.out.after hb)
                clear hb HS9
                go_wp2_with fail
                go_ret
                exact ⟨rfl, HS10.out.below⟩
  · go_wp2_with (have hq := HS0; clear hq; (with_reducible refine atBox ?_); refine wpList_alloc_b rfl (some 5) rfl 24 ((akA a)) (by kernel_rfl) ?_; intro g1 W1 hb hB hg; have HS1 := Lib.hid (HS0.out.new hb hB hg); clear hb hB hg HS0)
    refine (new_n half _ (by omega)).mono ?_
    rintro e W2 ⟨rfl, hb⟩
    have HS2 := Lib.hid (HS1.out.after hb)
    clear hb HS1
    go_wp2_with fail
    refine (alive_c _).mono ?_
    rintro e W3 ⟨rfl, hb⟩
    have HS3 := Lib.hid (HS2.out.after hb)
    clear hb HS2
    go_wp2_with fail
    go_ret
    exact ⟨rfl, HS3.out.below⟩
end Go.Proofs.Ytflgnlpippjhcaa
