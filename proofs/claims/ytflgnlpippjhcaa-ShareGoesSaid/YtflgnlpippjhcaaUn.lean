/- Share: ShareGoes. -/
import Derived.Test.YtflgnlpippjhcaaUm
set_option linter.unusedVariables false
set_option linter.unusedSimpArgs false
set_option maxRecDepth 100000
namespace Go.Proofs.Ytflgnlpippjhcaa
open Go.RowKit Go.Sort Go.Maps

theorem load_some (half : Int) (A : Option Addr) (n c : Nat) (bs : List UInt8) (L : Led) (w : World) (hh : 1 ≤ half ∧ half ≤ 1000000) (hR : ReadsB w A n bs) (hs : n ≤ 140737488355328) (hc : n ≤ c) (hL : loadB bs = some L) :
    Calls Try.prog 27 #[.int .i64 half, .slice A n c] w fun e W => ∃ g b, e = .returned (.tuple #[.pointer (some ⟨g, 0, none⟩), .int .i64 0]) ∧ Ms w noB [ldP g b half L] W :=
  (load_y half A n c bs w hh hR hs hc).mono fun e W h => by
    rcases h with ⟨L', g, b, h1, h2, h3⟩ | ⟨h1, _⟩
    · rw [hL] at h1
      cases h1
      exact ⟨g, b, h2, h3⟩
    · rw [hL] at h1; cases h1
theorem bytes_run {w : World} {A : Option Addr} {c : Nat} {bs : List UInt8} (h : (rowB A c bs).ok w) : (convert 58 9 (.slice A bs.length c)).run Try.prog w = .ok (.string (strOf bs)) w :=
  run_bytes_text (rowB_read h).1 58 9 5 Try.underlying58 Try.underlying5 Try.underlying9
set_option maxHeartbeats 16000000 in
theorem shareGoes_w (half : Int) (A : Option Addr) (n c : Nat) (acts : List Ak) (A2 : Option Addr) (n2 c2 : Nat) (acts2 : List Ak) (w : World) (hA : RdS 3 akL w A n acts) (h1 : n ≤ c) (h2 : c ≤ maxLen) (hB : ∀ x ∈ acts, AkOk x) (hA2 : RdS 3 akL w A2 n2 acts2) (h12 : n2 ≤ c2) (h22 : c2 ≤ maxLen) (hB2 : ∀ x ∈ acts2, AkOk x) :
    Calls Try.prog 9 #[.int .i64 half, .slice A n c, .slice A2 n2 c2] w fun e w' => e = .returned (.bool true) ∧ Below w.heap.size w w' := by
  have HA := Lib.hid hA
  have HB := Lib.hid hB
  have HN1 := Lib.hid h1
  have HN2 := Lib.hid h2
  clear hA hB h1 h2
  have HA2 := Lib.hid hA2
  have HB2 := Lib.hid hB2
  have HM1 := Lib.hid h12
  have HM2 := Lib.hid h22
  clear hA2 hB2 h12 h22
  go_enter Try.func9, Try.ntmps9
  have HS0 := Lib.hid (Ms.nil w noB)
  by_cases hh : 1 ≤ half ∧ half ≤ 1000000
  · have HH := Lib.hid hh
    clear hh
    go_wp2_with fail
    refine (new_y half _ HH.out.1 HH.out.2).mono ?_
    rintro e W1 ⟨g, b, rfl, hM⟩
    have HS1 := Lib.hid (HS0.out.made hM)
    clear hM HS0
    go_wp2_with fail
    refine (short_c A n c _ HN1.out HN2.out).mono ?_
    rintro e w' ⟨rfl, rfl⟩
    go_wp2_with fail
    go_loopw [30] (fun k wr => ∃ (kk : Nat) (L : Led), kk ≤ min n 300 ∧ k = .int .i64 (kk : Nat) ∧ Hid (LOk half L) ∧ Hid (Ms w noB [ldP g b half L] wr)) (fun k _ => min n 300 - (intOf k).toNat)
    case atStart => exact ⟨0, _, by omega, rfl, Lib.hid (new_ok HH.out), HS1⟩
    case round =>
      obtain ⟨k, L, hkm, rfl, HI, HS2⟩ := hrel
      have hkI : (k : Int) ≤ ((min n 300 : Nat) : Int) := by omega
      by_cases hlt : k < min n 300
      · have hltI : (k : Int) < ((min n 300 : Nat) : Int) := by omega
        obtain ⟨ad, x, rfl, hx, hc⟩ := HA.out.at_ (i := k) (by omega)
        have HX := Lib.hid (HB.out x (List.mem_of_getElem? hx))
        have HC := Lib.hid (fun j v hv => (HS2.out.below.cell (block_lt_of_cell (hc j v hv))).trans (hc j v hv))
        clear hc hx
        go_wp2_with (first
          | (have hq := HC; clear hq; refine wpList_load_ad (by kernel_rfl) 24 _ rfl (ad.add (k * 3)) (akL x) HC.out rfl _ (akV x) rfl Try.underlying24 rfl (by kernel_rfl) ?_; clear HC)
          | (have hq := HS2; clear hq; (with_reducible refine atAlloc ?_); refine wpList_alloc_b rfl (some 10) rfl 24 (#[.string .empty, .int .i64 0, .int .i64 0]) (by kernel_rfl) ?_; intro g3 W3 hb hB hg; have HS3 := Lib.hid (HS2.out.new hb hB hg); clear hb hB hg HS2)
          | (have hq := HS3; clear hq; (with_reducible refine atStore ?_); refine wpList_store_at rfl 24 _ _ rfl (HS3.out.at_ 1 rfl) (akV x) rfl rfl (by kernel_rfl) (Nat.le_of_ble_eq_true rfl) (by kernel_rfl) ?_; intro W4 hB hP; have HS4 := Lib.hid (HS3.out.put 1 rfl (new := (akA x)) hB hP); clear hB hP HS3; obtain ⟨r1a, r1b, r1c⟩ := HS4.out.rules 1 rfl))
        refine (add_l g b half L x.n x.am x.now _ (HS4.out.ok 0 _ rfl) HI.out HX.out.1).mono ?_
        rintro e W5 ⟨rfl, hM⟩
        have HS5 := Lib.hid (HS4.out.call 0 rfl hM)
        clear hM HS4 r1a r1b r1c
        go_wp2_with fail
        refine ⟨⟨k + 1, _, by omega, by go_num, Lib.hid (addL_ok HI.out x.n x.am x.now), ?_⟩, by simp [intOf]; omega⟩
        exact Lib.hid (Ms.cut (l := [ldP g b half (addL half L x.n x.am x.now)]) (k := [(.blk g3 24 (akA x))]) HS5.out)
      · obtain rfl : k = min n 300 := by omega
        clear hlt hkm hkI
        go_wp2_with fail
        refine (save_c g b half L _ (Own.ldR_ (HS2.out.ok 0 _ rfl) HI.out)).mono ?_
        rintro e W3 ⟨A3, c3, rfl, hM⟩
        have HS3 := Lib.hid (HS2.out.made hM)
        clear hM HS2
        go_wp2_with fail
        refine (load_some half A3 (saveB L).length c3 (saveB L) L _ HH.out (rowB_read (HS3.out.ok 1 _ rfl)).1 (by have := saveB_len HI.out; omega) (rowB_le (HS3.out.ok 1 _ rfl)) (load_save HI.out)).mono ?_
        rintro e W4 ⟨g2, b2, rfl, hM⟩
        have HS4 := Lib.hid (HS3.out.made hM)
        clear hM HS3
        go_wp2_with fail
        refine (short_c A2 n2 c2 _ HM1.out HM2.out).mono ?_
        rintro e w' ⟨rfl, rfl⟩
        go_wp2_with fail
        obtain ⟨L0, hL0⟩ : ∃ q, q = saveB L := ⟨_, rfl⟩
        rw [← hL0] at HS4 ⊢
        clear hL0
        go_loopw [59] (fun k wr => ∃ (kk : Nat) (L : Led), kk ≤ min n2 300 ∧ k = .int .i64 (kk : Nat) ∧ Hid (LOk half L) ∧ Hid (Ms w noB [ldP g b half L, rowB A3 c3 L0, ldP g2 b2 half L] wr)) (fun k _ => min n2 300 - (intOf k).toNat)
        case atStart => exact ⟨0, _, by omega, rfl, HI, HS4⟩
        clear HS4 HI
        case round =>
          obtain ⟨k, L, hkm, rfl, HI, HS5⟩ := hrel
          have hkI : (k : Int) ≤ ((min n2 300 : Nat) : Int) := by omega
          by_cases hlt : k < min n2 300
          · have hltI : (k : Int) < ((min n2 300 : Nat) : Int) := by omega
            obtain ⟨ad, x, rfl, hx, hc⟩ := HA2.out.at_ (i := k) (by omega)
            have HX := Lib.hid (HB2.out x (List.mem_of_getElem? hx))
            have HC := Lib.hid (fun j v hv => (HS5.out.below.cell (block_lt_of_cell (hc j v hv))).trans (hc j v hv))
            clear hc hx
            go_wp2_with (first
              | (have hq := HC; clear hq; refine wpList_load_ad (by kernel_rfl) 24 _ rfl (ad.add (k * 3)) (akL x) HC.out rfl _ (akV x) rfl Try.underlying24 rfl (by kernel_rfl) ?_; clear HC)
              | (have hq := HS5; clear hq; (with_reducible refine atAlloc ?_); refine wpList_alloc_b rfl (some 14) rfl 24 (#[.string .empty, .int .i64 0, .int .i64 0]) (by kernel_rfl) ?_; intro g6 W6 hb hB hg; have HS6 := Lib.hid (HS5.out.new hb hB hg); clear hb hB hg HS5)
              | (have hq := HS6; clear hq; (with_reducible refine atStore ?_); refine wpList_store_at rfl 24 _ _ rfl (HS6.out.at_ 3 rfl) (akV x) rfl rfl (by kernel_rfl) (Nat.le_of_ble_eq_true rfl) (by kernel_rfl) ?_; intro W7 hB hP; have HS7 := Lib.hid (HS6.out.put 3 rfl (new := (akA x)) hB hP); clear hB hP HS6))
            have HSd : Hid (Ms w noB [ldP g b half L, rowB A3 c3 L0, ldP g2 b2 half L, (.blk g6 24 (akA x))] W7.drew) := Lib.hid (HS7.out.drewN 1)
            clear HS7
            have HOK2 := Lib.hid (addL_ok HI.out x.n x.am x.now)
            obtain ⟨E0, hE0⟩ : ∃ q, q = addE L x.n x.am x.now := ⟨_, rfl⟩
            have HE0 := Lib.hid hE0
            clear hE0
            obtain ⟨L2, hL2⟩ : ∃ q, q = (addL half L x.n x.am x.now) := ⟨_, rfl⟩
            have HL2 := Lib.hid hL2
            rw [← hL2] at HOK2
            clear hL2
            have HXL := Lib.hid HX.out.1
            have HOd := Lib.hid (HSd.out.ok 0 _ rfl)
            refine wp_region_noPanic ?_
            refine wp_region_held_drew (S := (fun V => (∀ o, V.cell? ⟨g6, o, none⟩ = (akA x)[o]?))) (by kernel_rfl) ?_ (fun hHeld => ?_)
            · exact (HSd.out.rules 3 rfl).1
            refine wpAnyH_take (i := 0) (v := ?v1) rfl (by kernel_rfl) (by kernel_rfl) (by kernel_rfl) (fun _ _ _ h => h) (Or.inl ⟨by rfl, ?hy1⟩) (by assumption) ?_
            case hy1 => ((intro w0 hSw; (try dsimp only at hSw); go_simp) <;> with_reducible rfl)
            try simp only [Act.put, List.setIfInBounds_toArray, List.set_cons_zero, List.set_cons_succ]
            refine wpAnyH_take (i := 1) (v := ?v2) rfl (by kernel_rfl) (by kernel_rfl) (by kernel_rfl) (fun _ _ _ h => h) (Or.inl ⟨by rfl, ?hy2⟩) (by assumption) ?_
            case hy2 => ((intro w0 hSw; (try dsimp only at hSw); go_simp) <;> with_reducible rfl)
            try simp only [Act.put, List.setIfInBounds_toArray, List.set_cons_zero, List.set_cons_succ]
            refine wpAnyH_take (i := 2) (v := ?v3) rfl (by kernel_rfl) (by kernel_rfl) (by kernel_rfl) (fun _ _ _ h => h) (Or.inl ⟨by rfl, ?hy3⟩) (by assumption) ?_
            case hy3 => ((intro w0 hSw; (try dsimp only at hSw); go_simp) <;> with_reducible rfl)
            try simp only [Act.put, List.setIfInBounds_toArray, List.set_cons_zero, List.set_cons_succ]
            refine wpAnyH_take (i := 3) (v := ?v4) rfl (by kernel_rfl) (by kernel_rfl) (by kernel_rfl) (fun _ _ _ h => h) (Or.inl ⟨by rfl, ?hy4⟩) (by assumption) ?_
            case hy4 => ((intro w0 hSw; (try dsimp only at hSw); go_simp) <;> with_reducible rfl)
            try simp only [Act.put, List.setIfInBounds_toArray, List.set_cons_zero, List.set_cons_succ]
            refine wpAnyH_take (i := 4) (v := ?v5) rfl (by kernel_rfl) (by kernel_rfl) (by kernel_rfl) (fun _ _ _ h => h) (Or.inl ⟨by rfl, ?hy5⟩) (by assumption) ?_
            case hy5 => ((intro w0 hSw; (try dsimp only at hSw); go_simp) <;> with_reducible rfl)
            try simp only [Act.put, List.setIfInBounds_toArray, List.set_cons_zero, List.set_cons_succ]
            refine wpAnyH_take (i := 5) (v := ?v6) rfl (by kernel_rfl) (by kernel_rfl) (by kernel_rfl) (fun _ _ _ h => h) (Or.inl ⟨by rfl, ?hy6⟩) (by assumption) ?_
            case hy6 => ((intro w0 hSw; (try dsimp only at hSw); go_simp) <;> with_reducible rfl)
            try simp only [Act.put, List.setIfInBounds_toArray, List.set_cons_zero, List.set_cons_succ]
            refine wpAnyH_take (i := 6) (v := ?v7) rfl (by kernel_rfl) (by kernel_rfl) (by kernel_rfl) (fun _ _ _ h => h) (Or.inl ⟨by rfl, ?hy7⟩) (by assumption) ?_
            case hy7 => ((intro w0 hSw; (try dsimp only at hSw); go_simp) <;> with_reducible rfl)
            try simp only [Act.put, List.setIfInBounds_toArray, List.set_cons_zero, List.set_cons_succ]
            refine wpAnyH_take (i := 8) (v := ?v8) rfl (by kernel_rfl) (by kernel_rfl) (by kernel_rfl) (fun _ _ _ h => h) (Or.inl ⟨by rfl, ?hy8⟩) (by assumption) ?_
            case hy8 => ((intro w0 hSw; (try dsimp only at hSw); go_simp) <;> with_reducible rfl)
            try simp only [Act.put, List.setIfInBounds_toArray, List.set_cons_zero, List.set_cons_succ]
            refine wpAnyH_take (i := 9) (v := ?v9) rfl (by kernel_rfl) (by kernel_rfl) (by kernel_rfl) (fun _ _ _ h => h) (Or.inl ⟨by rfl, ?hy9⟩) (by assumption) ?_
            case hy9 => ((intro w0 hSw; (try dsimp only at hSw); go_simp) <;> with_reducible rfl)
            try simp only [Act.put, List.setIfInBounds_toArray, List.set_cons_zero, List.set_cons_succ]
            refine wpAnyH_take (i := 10) (v := ?v10) rfl (by kernel_rfl) (by kernel_rfl) (by kernel_rfl) (fun _ _ _ h => h) (Or.inl ⟨by rfl, ?hy10⟩) (by assumption) ?_
            case hy10 => ((intro w0 hSw; (try dsimp only at hSw); go_simp) <;> with_reducible rfl)
            try simp only [Act.put, List.setIfInBounds_toArray, List.set_cons_zero, List.set_cons_succ]
            refine wpAnyH_take (i := 11) (v := ?v11) rfl (by kernel_rfl) (by kernel_rfl) (by kernel_rfl) (fun _ _ _ h => h) (Or.inl ⟨by rfl, ?hy11⟩) (by assumption) ?_
            case hy11 => ((intro w0 hSw; (try dsimp only at hSw); go_simp) <;> with_reducible rfl)
            try simp only [Act.put, List.setIfInBounds_toArray, List.set_cons_zero, List.set_cons_succ]
            refine wpAnyH_take (i := 12) (v := ?v12) rfl (by kernel_rfl) (by kernel_rfl) (by kernel_rfl) (fun _ _ _ h => h) (Or.inl ⟨by rfl, ?hy12⟩) (by assumption) ?_
            case hy12 => ((intro w0 hSw; (try dsimp only at hSw); go_simp) <;> with_reducible rfl)
            try simp only [Act.put, List.setIfInBounds_toArray, List.set_cons_zero, List.set_cons_succ]
            refine wpAnyH_take (i := 13) (v := ?v13) rfl (by kernel_rfl) (by kernel_rfl) (by kernel_rfl) (fun _ _ _ h => h) (Or.inl ⟨by rfl, ?hy13⟩) (by assumption) ?_
            case hy13 => ((intro w0 hSw; (try dsimp only at hSw); go_simp) <;> with_reducible rfl)
            try simp only [Act.put, List.setIfInBounds_toArray, List.set_cons_zero, List.set_cons_succ]
            refine wpAnyH_take (i := 14) (v := ?v14) rfl (by kernel_rfl) (by kernel_rfl) (by kernel_rfl) (fun _ _ _ h => h) (Or.inl ⟨by rfl, ?hy14⟩) (by assumption) ?_
            case hy14 => ((intro w0 hSw; (try dsimp only at hSw); go_simp) <;> with_reducible rfl)
            try simp only [Act.put, List.setIfInBounds_toArray, List.set_cons_zero, List.set_cons_succ]
            refine wpAnyH_ready (rs := [7]) (by kernel_rfl) (by simp) ?_
            refine AllReadyH.cons rfl (fun K hK => ?_) AllReadyH.nil
            go_simp
            refine (add_l g b half L x.n x.am x.now _ HOd.out HI.out HXL.out).mono ?_
            rintro e Wa ⟨rfl, hM⟩
            rw [← HL2.out] at hM
            rw [← HE0.out]
            have HSa := Lib.hid (HSd.out.call 0 rfl hM)
            have HOa := Lib.hid (HSa.out.ok 2 _ rfl)
            clear hM HSd HOd
            try go_wp2_with fail
            refine hK.out _ _ ?_ (fun hHeld2 => ?_)
            · exact (HSa.out.rules 3 rfl).1
            clear hK K hHeld
            have hHeld := hHeld2
            clear hHeld2
            try simp only [Act.put, List.setIfInBounds_toArray, List.set_cons_zero, List.set_cons_succ]
            refine wpAnyH_ready (rs := [15]) (by kernel_rfl) (by simp) ?_
            refine AllReadyH.cons rfl (fun K hK => ?_) AllReadyH.nil
            go_simp
            refine (add_l g2 b2 half L x.n x.am x.now _ HOa.out HI.out HXL.out).mono ?_
            rintro e Wb ⟨rfl, hM⟩
            rw [← HL2.out] at hM
            rw [← HE0.out]
            have HSb := Lib.hid (HSa.out.call 2 rfl hM)
            have HOb := Lib.hid (Own.ldR_ (HSb.out.ok 0 _ rfl) HOK2.out)
            clear hM HSa HOa
            try go_wp2_with fail
            refine hK.out _ _ ?_ (fun hHeld2 => ?_)
            · exact (HSb.out.rules 3 rfl).1
            clear hK K hHeld
            have hHeld := hHeld2
            clear hHeld2
            try simp only [Act.put, List.setIfInBounds_toArray, List.set_cons_zero, List.set_cons_succ]
            refine wpAnyH_take (i := 16) (v := ?v15) rfl (by kernel_rfl) (by kernel_rfl) (by kernel_rfl) (fun _ _ _ h => h) (Or.inl ⟨by rfl, ?hy15⟩) (by assumption) ?_
            case hy15 => ((intro w0 hSw; (try dsimp only at hSw); go_simp) <;> with_reducible rfl)
            try simp only [Act.put, List.setIfInBounds_toArray, List.set_cons_zero, List.set_cons_succ]
            refine wpAnyH_take (i := 17) (v := ?v16) rfl (by kernel_rfl) (by kernel_rfl) (by kernel_rfl) (fun _ _ _ h => h) (Or.inl ⟨by rfl, ?hy16⟩) (by assumption) ?_
            case hy16 => ((intro w0 hSw; (try dsimp only at hSw); go_simp) <;> with_reducible rfl)
            try simp only [Act.put, List.setIfInBounds_toArray, List.set_cons_zero, List.set_cons_succ]
            refine wpAnyH_take (i := 18) (v := ?v17) rfl (by kernel_rfl) (by kernel_rfl) (by kernel_rfl) (fun _ _ _ h => h) (Or.inl ⟨by rfl, ?hy17⟩) (by assumption) ?_
            case hy17 => ((intro w0 hSw; (try dsimp only at hSw); go_simp) <;> with_reducible rfl)
            try simp only [Act.put, List.setIfInBounds_toArray, List.set_cons_zero, List.set_cons_succ]
            refine wpAnyH_take (i := 21) (v := ?v18) rfl (by kernel_rfl) (by kernel_rfl) (by kernel_rfl) (fun _ _ _ h => h) (Or.inl ⟨by rfl, ?hy18⟩) (by assumption) ?_
            case hy18 => ((intro w0 hSw; (try dsimp only at hSw); go_simp) <;> with_reducible rfl)
            try simp only [Act.put, List.setIfInBounds_toArray, List.set_cons_zero, List.set_cons_succ]
            refine wpAnyH_ready (rs := [19]) (by kernel_rfl) (by simp) ?_
            refine AllReadyH.cons rfl (fun K hK => ?_) AllReadyH.nil
            go_simp
            refine (save_c g b half L2 _ HOb.out).mono ?_
            rintro e Wc ⟨A5, c5, rfl, hM⟩
            have HSc := Lib.hid (HSb.out.made hM)
            have hcv1 := bytes_run (HSc.out.ok 4 _ rfl)
            have HOc := Lib.hid (Own.ldR_ (HSc.out.ok 2 _ rfl) HOK2.out)
            clear hM HSb HOb
            try go_wp2_with fail
            refine hK.out _ _ ?_ (fun hHeld2 => ?_)
            · exact (HSc.out.rules 3 rfl).1
            clear hK K hHeld
            have hHeld := hHeld2
            clear hHeld2
            try simp only [Act.put, List.setIfInBounds_toArray, List.set_cons_zero, List.set_cons_succ]
            refine wpAnyH_ready (rs := [20, 22]) (by kernel_rfl) (by simp) ?_
            refine AllReadyH.cons rfl (fun K hK => ?_) ?_
            · go_simp
              refine hK.out _ _ ?_ (fun hHeld2 => ?_)
              · exact (HSc.out.rules 3 rfl).1
              clear hK K hHeld
              have hHeld := hHeld2
              clear hHeld2
              try simp only [Act.put, List.setIfInBounds_toArray, List.set_cons_zero, List.set_cons_succ]
              refine wpAnyH_ready (rs := [22]) (by kernel_rfl) (by simp) ?_
              refine AllReadyH.cons rfl (fun K hK => ?_) AllReadyH.nil
              go_simp
              refine (save_c g2 b2 half L2 _ HOc.out).mono ?_
              rintro e Wd ⟨A6, c6, rfl, hM⟩
              have HSe := Lib.hid (HSc.out.made hM)
              have hcv2 := bytes_run (HSe.out.ok 4 _ rfl)
              have hcv3 := bytes_run (HSe.out.ok 5 _ rfl)
              clear hM HSc HOc hcv1
              try go_wp2_with fail
              refine hK.out _ _ ?_ (fun hHeld2 => ?_)
              · exact (HSe.out.rules 3 rfl).1
              clear hK K hHeld
              have hHeld := hHeld2
              clear hHeld2
              try simp only [Act.put, List.setIfInBounds_toArray, List.set_cons_zero, List.set_cons_succ]
              refine wpAnyH_ready (rs := [23]) (by kernel_rfl) (by simp) ?_
              refine AllReadyH.cons rfl (fun K hK => ?_) AllReadyH.nil
              go_simp
              refine hK.out _ _ ?_ (fun hHeld2 => ?_)
              · exact (HSe.out.rules 3 rfl).1
              clear hK K hHeld
              have hHeld := hHeld2
              clear hHeld2
              try simp only [Act.put, List.setIfInBounds_toArray, List.set_cons_zero, List.set_cons_succ]
              refine wpAnyH_take (i := 24) (v := ?v19) rfl (by kernel_rfl) (by kernel_rfl) (by kernel_rfl) (fun _ _ _ h => h) (Or.inl ⟨by rfl, ?hy19⟩) (by assumption) ?_
              case hy19 => ((intro w0 hSw; (try dsimp only at hSw); go_simp) <;> with_reducible rfl)
              try simp only [Act.put, List.setIfInBounds_toArray, List.set_cons_zero, List.set_cons_succ]
              refine wpAnyH_take (i := 25) (v := ?v20) rfl (by kernel_rfl) (by kernel_rfl) (by kernel_rfl) (fun _ _ _ h => h) (Or.inl ⟨by rfl, ?hy20⟩) (by assumption) ?_
              case hy20 => ((intro w0 hSw; (try dsimp only at hSw); go_simp) <;> with_reducible rfl)
              try simp only [Act.put, List.setIfInBounds_toArray, List.set_cons_zero, List.set_cons_succ]
              refine wpAnyH_done (by kernel_rfl) ?_ _
              refine NoPanic.normal ?_
              go_wp2_with fail
              refine ⟨⟨k + 1, L2, by omega, by go_num, HOK2, ?_⟩, by simp [intOf]; omega⟩
              exact Lib.hid (Ms.cut (l := [ldP g b half L2, rowB A3 c3 L0, ldP g2 b2 half L2]) HSe.out)
            · refine AllReadyH.cons rfl (fun K hK => ?_) AllReadyH.nil
              go_simp
              refine (save_c g2 b2 half L2 _ HOc.out).mono ?_
              rintro e Wd ⟨A6, c6, rfl, hM⟩
              have HSe := Lib.hid (HSc.out.made hM)
              have hcv2 := bytes_run (HSe.out.ok 4 _ rfl)
              have hcv3 := bytes_run (HSe.out.ok 5 _ rfl)
              clear hM HSc HOc hcv1
              try go_wp2_with fail
              refine hK.out _ _ ?_ (fun hHeld2 => ?_)
              · exact (HSe.out.rules 3 rfl).1
              clear hK K hHeld
              have hHeld := hHeld2
              clear hHeld2
              try simp only [Act.put, List.setIfInBounds_toArray, List.set_cons_zero, List.set_cons_succ]
              refine wpAnyH_ready (rs := [20, 23]) (by kernel_rfl) (by simp) ?_
              refine AllReadyH.cons rfl (fun K hK => ?_) ?_
              · go_simp
                refine hK.out _ _ ?_ (fun hHeld2 => ?_)
                · exact (HSe.out.rules 3 rfl).1
                clear hK K hHeld
                have hHeld := hHeld2
                clear hHeld2
                try simp only [Act.put, List.setIfInBounds_toArray, List.set_cons_zero, List.set_cons_succ]
                refine wpAnyH_ready (rs := [23]) (by kernel_rfl) (by simp) ?_
                refine AllReadyH.cons rfl (fun K hK => ?_) AllReadyH.nil
                go_simp
                refine hK.out _ _ ?_ (fun hHeld2 => ?_)
                · exact (HSe.out.rules 3 rfl).1
                clear hK K hHeld
                have hHeld := hHeld2
                clear hHeld2
                try simp only [Act.put, List.setIfInBounds_toArray, List.set_cons_zero, List.set_cons_succ]
                refine wpAnyH_take (i := 24) (v := ?v21) rfl (by kernel_rfl) (by kernel_rfl) (by kernel_rfl) (fun _ _ _ h => h) (Or.inl ⟨by rfl, ?hy21⟩) (by assumption) ?_
                case hy21 => ((intro w0 hSw; (try dsimp only at hSw); go_simp) <;> with_reducible rfl)
                try simp only [Act.put, List.setIfInBounds_toArray, List.set_cons_zero, List.set_cons_succ]
                refine wpAnyH_take (i := 25) (v := ?v22) rfl (by kernel_rfl) (by kernel_rfl) (by kernel_rfl) (fun _ _ _ h => h) (Or.inl ⟨by rfl, ?hy22⟩) (by assumption) ?_
                case hy22 => ((intro w0 hSw; (try dsimp only at hSw); go_simp) <;> with_reducible rfl)
                try simp only [Act.put, List.setIfInBounds_toArray, List.set_cons_zero, List.set_cons_succ]
                refine wpAnyH_done (by kernel_rfl) ?_ _
                refine NoPanic.normal ?_
                go_wp2_with fail
                refine ⟨⟨k + 1, L2, by omega, by go_num, HOK2, ?_⟩, by simp [intOf]; omega⟩
                exact Lib.hid (Ms.cut (l := [ldP g b half L2, rowB A3 c3 L0, ldP g2 b2 half L2]) HSe.out)
              · refine AllReadyH.cons rfl (fun K hK => ?_) AllReadyH.nil
                go_simp
                refine hK.out _ _ ?_ (fun hHeld2 => ?_)
                · exact (HSe.out.rules 3 rfl).1
                clear hK K hHeld
                have hHeld := hHeld2
                clear hHeld2
                try simp only [Act.put, List.setIfInBounds_toArray, List.set_cons_zero, List.set_cons_succ]
                refine wpAnyH_ready (rs := [20]) (by kernel_rfl) (by simp) ?_
                refine AllReadyH.cons rfl (fun K hK => ?_) AllReadyH.nil
                go_simp
                refine hK.out _ _ ?_ (fun hHeld2 => ?_)
                · exact (HSe.out.rules 3 rfl).1
                clear hK K hHeld
                have hHeld := hHeld2
                clear hHeld2
                try simp only [Act.put, List.setIfInBounds_toArray, List.set_cons_zero, List.set_cons_succ]
                refine wpAnyH_take (i := 24) (v := ?v23) rfl (by kernel_rfl) (by kernel_rfl) (by kernel_rfl) (fun _ _ _ h => h) (Or.inl ⟨by rfl, ?hy23⟩) (by assumption) ?_
                case hy23 => ((intro w0 hSw; (try dsimp only at hSw); go_simp) <;> with_reducible rfl)
                try simp only [Act.put, List.setIfInBounds_toArray, List.set_cons_zero, List.set_cons_succ]
                refine wpAnyH_take (i := 25) (v := ?v24) rfl (by kernel_rfl) (by kernel_rfl) (by kernel_rfl) (fun _ _ _ h => h) (Or.inl ⟨by rfl, ?hy24⟩) (by assumption) ?_
                case hy24 => ((intro w0 hSw; (try dsimp only at hSw); go_simp) <;> with_reducible rfl)
                try simp only [Act.put, List.setIfInBounds_toArray, List.set_cons_zero, List.set_cons_succ]
                refine wpAnyH_done (by kernel_rfl) ?_ _
                refine NoPanic.normal ?_
                go_wp2_with fail
                refine ⟨⟨k + 1, L2, by omega, by go_num, HOK2, ?_⟩, by simp [intOf]; omega⟩
                exact Lib.hid (Ms.cut (l := [ldP g b half L2, rowB A3 c3 L0, ldP g2 b2 half L2]) HSe.out)
          · go_wp2_with fail
            refine (alive_c _).mono ?_
            rintro e W6 ⟨rfl, hb⟩
            have HS6 := Lib.hid (HS5.out.after hb)
            clear hb HS5
            go_wp2_with fail
            go_ret
            exact ⟨rfl, HS6.out.below⟩
  · go_wp2_with fail
    refine (new_n half _ (by omega)).mono ?_
    rintro e W1 ⟨rfl, hb⟩
    have HS1 := Lib.hid (HS0.out.after hb)
    clear hb HS0
    go_wp2_with fail
    refine (alive_c _).mono ?_
    rintro e W2 ⟨rfl, hb⟩
    have HS2 := Lib.hid (HS1.out.after hb)
    clear hb HS1
    go_wp2_with fail
    go_ret
    exact ⟨rfl, HS2.out.below⟩
end Go.Proofs.Ytflgnlpippjhcaa
