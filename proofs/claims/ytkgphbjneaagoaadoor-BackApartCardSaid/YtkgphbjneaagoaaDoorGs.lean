/- Back: BackApart. -/
import Derived.Test.YtkgphbjneaagoaaDoorGt
set_option linter.unusedVariables false
set_option maxRecDepth 100000
namespace Go.Proofs.YtkgphbjneaagoaaDoor
open Go.RowKit Go.Sort

theorem Ms.rdP {w W : World} {ex : Nat → Prop} {L : List Own} (h : Ms w ex L W) (i : Nat) {A : Option Addr} {c n : Nat} {l : List Pl} (hi : L[i]? = some (rowPl A c l)) (hn : l.length = n) : RdPl W A n l := hn ▸ rowS_read (fun _ => rfl) (h.ok i _ hi)
set_option maxHeartbeats 64000000 in
theorem backApart_w (now : Int) (up : NS) (A : Option Addr) (n c : Nat) (rs : List Ru) (B : Option Addr) (m d : Nat) (ws : List Wi) (mode : Int) (w : World) (hA : RdR w A n rs) (hB : RdW w B m ws) (hb : ∀ x ∈ ws, -9223372036854775808 ≤ x.id ∧ x.id ≤ 9223372036854775807) (hmd : m ≤ d ∧ d ≤ 9223372036854775807) (hT : TabW w) :
    Calls Tryd.prog 4 #[scV now up A n c B m d, .int .i64 mode] w fun e w' => e = .returned (.bool true) ∧ Below w.heap.size w w' := by
  have HA := Lib.hid hA
  have HB := Lib.hid hB
  have HI := Lib.hid hb
  have HTab := Lib.hid hT
  have HMD := Lib.hid hmd
  have HLw := Lib.hid (show ws.length = m from hB.1)
  have HLr := Lib.hid (show rs.length = n from hA.1)
  have hnI : (n : Int) ≤ 9223372036854775807 := by have := hA.2.1; omega
  have hmI : (m : Int) ≤ 9223372036854775807 := by have := hB.2.1; omega
  clear hA hB hb hT hmd
  go_enter Tryd.func4, Tryd.ntmps4
  have HS0 := Lib.hid (Ms.nil w noB)
  by_cases h60 : 60 < m
  · have h60I : (60 : Int) < (m : Int) := by omega
    go_wp2_with (have hq := HS0; clear hq; (with_reducible refine atBox ?_); refine wpList_alloc_b rfl (some 2) rfl 28 ((scA now up A n c B m d)) (by kernel_rfl) ?_; intro g1 W1 hb hB hg; have HS1 := Lib.hid (HS0.out.new hb hB hg); clear hb hB hg HS0; obtain ⟨r0a, r0b, r0c⟩ := HS1.out.rules 0 rfl)
    refine (alive_c _ (HTab.out.after HS1.out.below)).mono ?_
    rintro e W2 ⟨rfl, hb⟩
    have HS2 := Lib.hid (HS1.out.after hb)
    clear hb HS1 r0a r0b r0c
    go_wp2_with fail
    go_ret
    exact ⟨rfl, HS2.out.below⟩
  · have h60I : (m : Int) ≤ 60 := by omega
    by_cases h61 : 60 < n
    · have h61I : (60 : Int) < (n : Int) := by omega
      go_wp2_with (have hq := HS0; clear hq; (with_reducible refine atBox ?_); refine wpList_alloc_b rfl (some 2) rfl 28 ((scA now up A n c B m d)) (by kernel_rfl) ?_; intro g1 W1 hb hB hg; have HS1 := Lib.hid (HS0.out.new hb hB hg); clear hb hB hg HS0; obtain ⟨r0a, r0b, r0c⟩ := HS1.out.rules 0 rfl)
      refine (alive_c _ (HTab.out.after HS1.out.below)).mono ?_
      rintro e W2 ⟨rfl, hb⟩
      have HS2 := Lib.hid (HS1.out.after hb)
      clear hb HS1 r0a r0b r0c
      go_wp2_with fail
      go_ret
      exact ⟨rfl, HS2.out.below⟩
    · have h61I : (n : Int) ≤ 60 := by omega
      by_cases hR : RightP now up rs ws ∧ 0 ≤ mode ∧ mode ≤ 2
      · have HR := Lib.hid hR.1
        have HMo := Lib.hid hR.2
        clear hR
        obtain ⟨l1, l2, hL⟩ := lain_of mode HR.out (by rw [HLr.out]; omega) (by rw [HLw.out]; omega)
        obtain ⟨σ, hσ⟩ : ∃ σ, σ = passP mode up now rs ws := ⟨_, rfl⟩
        have HSG := Lib.hid hσ
        rw [← hσ] at hL
        have HL := Lib.hid hL
        clear hσ hL
        obtain ⟨X, hX⟩ : ∃ X, X = l1.map Kp.x := ⟨_, rfl⟩
        obtain ⟨Y, hY⟩ : ∃ Y, Y = l2.map Kp.x := ⟨_, rfl⟩
        obtain ⟨Z, hZ⟩ : ∃ Z, Z = (l1 ++ l2).map Kp.x := ⟨_, rfl⟩
        have HXe := Lib.hid hX
        have HYe := Lib.hid hY
        have HZe := Lib.hid hZ
        have HXY := Lib.hid (show X ++ Y = Z by rw [hX, hY, hZ, List.map_append])
        clear hX hY hZ
        go_wp2_with (first
          | (have hq := HS0; clear hq; (with_reducible refine atBox ?_); refine wpList_alloc_b rfl (some 2) rfl 28 ((scA now up A n c B m d)) (by kernel_rfl) ?_; intro g1 W1 hb hB hg; have HS1 := Lib.hid (HS0.out.new hb hB hg); clear hb hB hg HS0; obtain ⟨r0a, r0b, r0c⟩ := HS1.out.rules 0 rfl)
          | (have hq := HS1; clear hq; (with_reducible refine atLoad ?_); refine wpList_load_at rfl 28 _ rfl (HS1.out.at_ 0 rfl) 7 (scV now up A n c B m d) rfl _ Tryd.underlying28 rfl (by kernel_rfl) (Nat.le_of_ble_eq_true rfl) rfl ?_))
        refine (theirs_c now up A n c rs B m d ws _ (HA.out.below HS1.out.below) (HB.out.below HS1.out.below) (by omega) (by omega)).mono ?_
        rintro e W2 ⟨A1, c1, B1, d1, rfl, hA1, hB1, hb⟩
        have HS2 := Lib.hid (HS1.out.after hb)
        clear hb HS1 r0a r0b r0c
        have HA1 := Lib.hid hA1
        have HB1 := Lib.hid hB1
        clear hA1 hB1
        go_wp2_with fail
        refine (pass_y now up A1 n c1 rs B1 m d1 ws mode σ _ HA1.out HB1.out HI.out HR.out HMo.out.1 HMo.out.2 (HTab.out.after HS2.out.below) HSG.out).mono ?_
        rintro e W3 ⟨S1, s1, e1, P1, p1, f1, rfl, hN, hM⟩
        have HS3 := Lib.hid (HS2.out.made hM)
        clear hM HS2
        have HN1 := Lib.hid hN
        clear hN
        obtain ⟨N, hN⟩ : ∃ N, N = s1 + p1 := ⟨_, rfl⟩
        have HXl := Lib.hid (show X.length = s1 by rw [HXe.out, ← HL.out.s]; exact HN1.out.1)
        have HYl := Lib.hid (show Y.length = p1 by rw [HYe.out, ← HL.out.p]; exact HN1.out.2.1)
        have HZl := Lib.hid (show Z.length = N by rw [← HXY.out, List.length_append, HXl.out, HYl.out, hN])
        have HL1l := Lib.hid (show l1.length = s1 by have := HXl.out; rw [HXe.out] at this; simpa using this)
        have HNN := Lib.hid (show N ≤ 120 ∧ N = s1 + p1 by have := HN1.out; omega)
        have hNI : (N : Int) ≤ 120 := by have := HN1.out; omega
        have hsI : (s1 : Int) ≤ 60 := by have := HN1.out; omega
        have HB1 := Lib.hid (show (0 + s1) * 48 ≤ 140737488355328 by have := HN1.out; omega)
        have HB2 := Lib.hid (show (s1 + p1) * 48 ≤ 140737488355328 by have := HN1.out; omega)
        clear hN
        have HS4 := Lib.hid (HS3.out.nilS 47 6 plL)
        clear HS3
        have HS5 := Lib.hid (HS4.out.nilS 47 6 plL)
        clear HS4
        go_wp2_with (first
          | (have hq := HS5; clear hq; refine append_rd HS5.out 2 rfl _ _ 31 47 6 48 plL (.agg #[.int .i64 0, .int .i64 0, .int .u64 0, .int .u64 0, .int .u64 0, .int .u64 0]) rfl Tryd.underlying31 (by kernel_rfl) rfl (by decide) none 0 [] 0 rfl S1 s1 e1 X X s1 rfl HXl.out rfl rfl rfl (HXe.out ▸ HL.out.s ▸ HS5.out.ansS 1 rfl HN1.out.1) (fun _ => rfl) (fun _ => rfl) (HB1.out) (by simp only [maxLen]; have := HB1.out; omega) ?_; intro A6 c6 W6 hM; have HS6 := Lib.hid hM; clear hM HS5)
          | (have hq := HS6; clear hq; refine append_rd HS6.out 2 rfl _ _ 31 47 6 48 plL (.agg #[.int .i64 0, .int .i64 0, .int .u64 0, .int .u64 0, .int .u64 0, .int .u64 0]) rfl Tryd.underlying31 (by kernel_rfl) rfl (by decide) A6 c6 X s1 HXl.out P1 p1 f1 Y Z N HXY.out HZl.out rfl rfl rfl (HYe.out ▸ HL.out.p ▸ HS6.out.ansP 1 rfl HN1.out.2.1) (fun _ => rfl) (fun _ => rfl) (HB2.out) (by simp only [maxLen]; have := HB2.out; omega) ?_; intro A7 c7 W7 hM; have HS7 := Lib.hid hM; clear hM HS6))
        go_loopw [54, 8] (fun k b wr => ∃ (kk : Nat) (A8 : Option Addr) (c8 : Nat), kk ≤ N ∧ k = .int .i64 (kk : Nat) ∧ b = .slice A8 (Z.take kk).length c8 ∧ Hid (Ms w noB [(.blk g1 28 (scA now up A n c B m d)), .all [rowPl S1 e1 σ.s, rowPl P1 f1 σ.p], rowPl A7 c7 Z, rowPl A8 c8 (Z.take kk)] wr)) (fun k _ _ => N - (intOf k).toNat)
        case atStart => exact ⟨0, _, _, by omega, rfl, rfl, HS7⟩
        case round =>
          obtain ⟨k, A8, c8, hkN, rfl, rfl, HS8⟩ := hrel
          by_cases hlt : k < N
          · have hltI : (k : Int) < (N : Int) := by omega
            obtain ⟨ad, x, hAe, hx, hc⟩ := (HS8.out.rdP 2 rfl HZl.out).at_ hlt
            subst hAe
            have HRX := Lib.hid (take_one hx)
            have HTL := Lib.hid (show (Z.take k).length = k by rw [List.length_take, HZl.out]; omega)
            obtain ⟨R, hR⟩ : ∃ R, R = Z.take k := ⟨_, rfl⟩
            have HRe := Lib.hid hR
            rw [← hR] at HS8 HRX HTL
            try rw [← hR]
            rw [HZe.out] at hx
            obtain ⟨u, hu, rfl⟩ : ∃ u, (l1 ++ l2)[k]? = some u ∧ u.x = x := by rw [List.getElem?_map] at hx; exact Option.map_eq_some_iff.1 hx
            have HC := Lib.hid hc
            have HU := Lib.hid hu
            have HOK := Lib.hid (HL.out.ok k u hu)
            have HCN := Lib.hid (HL.out.cnt k u hu)
            have hst := HL.out.st k u hu
            rw [HL1l.out] at hst
            have i1 := HOK.out.2.2.1
            have i2 := HOK.out.2.2.2.1
            have i3 := HOK.out.2.2.2.2.1
            have i4 := HOK.out.2.2.2.2.2
            have i5 := HR.out.n0
            have i6 := HR.out.n1
            have i7 : (R.length : Int) ≤ 120 := by have := HTL.out; omega
            have hcn : (((cnt u.x.nodes : Nat) : Int) != u.w.n) = false := by rw [HCN.out.1]; simp
            have HEQ := Lib.hid (fun w9 => show (Op.equalIn 10000 24 (nsV (notS u.x.nodes (u.w.of &&& up))) (nsV emptyS)).run Tryd.prog w9 = .ok true w9 by rw [eqNs_run, HCN.out.2]; simp)
            have hr0 := HR.out.n0
            clear hc hx hR hu hr0
            have hkk : decide ((k : Int) < (s1 : Int)) = (u.x.at_ == now) := by
              by_cases h9 : u.x.at_ = now
              · rw [beq_iff_eq.2 h9]; exact decide_eq_true (by have := hst.1 h9; omega)
              · rw [beq_false_of_ne h9]; exact decide_eq_false (by intro h10; exact h9 (hst.2 (by omega)))
            have hkk2 : ((u.x.at_ == now) == decide (k < s1)) = true := by rw [← hkk, beq_iff_eq, decide_eq_decide]; omega
            clear hst hkk
            go_wp2_with (first
              | (have hq := HC; clear hq; refine wpList_load_ad (by kernel_rfl) 47 _ rfl (ad.add (k * 6)) ((plL u.x)) HC.out rfl _ (plV u.x) rfl Tryd.underlying47 rfl (by kernel_rfl) ?_; clear HC)
              | (have hq := HS8; clear hq; (with_reducible refine atAlloc ?_); refine wpList_alloc_b rfl (some 10) rfl 47 (#[.int .i64 0, .int .i64 0, .int .u64 0, .int .u64 0, .int .u64 0, .int .u64 0]) (by kernel_rfl) ?_; intro g9 W9 hb hB hg; have HS9 := Lib.hid (HS8.out.new hb hB hg); clear hb hB hg HS8)
              | (have hq := HS9; clear hq; (with_reducible refine atStore ?_); refine wpList_store_at rfl 47 _ _ rfl (HS9.out.at_ 4 rfl) (plV u.x) rfl rfl (by kernel_rfl) (Nat.le_of_ble_eq_true rfl) (by kernel_rfl) ?_; intro W10 hB hP; have HS10 := Lib.hid (HS9.out.put 4 rfl (new := (plA u.x)) hB hP); clear hB hP HS9; obtain ⟨r4a, r4b, r4c⟩ := HS10.out.rules 4 rfl)
              | (have hq := HS10; clear hq; (with_reducible refine atLoad ?_); refine wpList_load_at rfl 28 _ rfl (HS10.out.at_ 0 rfl) 7 (scV now up A n c B m d) rfl _ Tryd.underlying28 rfl (by kernel_rfl) (Nat.le_of_ble_eq_true rfl) rfl ?_))
            refine (wish_k now up A n c B m d ws u.w u.x.id _ (HB.out.below HS10.out.below) HOK.out.1 HOK.out.2.1).mono ?_
            rintro e W11 ⟨rfl, hb⟩
            have HS11 := Lib.hid (HS10.out.after hb)
            clear hb HS10 r4a r4b r4c
            go_wp2_with (first
              | (have hq := HS11; clear hq; (with_reducible refine atAlloc ?_); refine wpList_alloc_b rfl (some 11) rfl 49 (#[.int .i64 0, .int .i64 0, .int .i64 0, .int .u64 0, .int .u64 0, .int .u64 0, .int .u64 0]) (by kernel_rfl) ?_; intro g12 W12 hb hB hg; have HS12 := Lib.hid (HS11.out.new hb hB hg); clear hb hB hg HS11)
              | (have hq := HS12; clear hq; (with_reducible refine atStore ?_); refine wpList_store_at rfl 49 _ _ rfl (HS12.out.at_ 5 rfl) (wiV u.w) rfl rfl (by kernel_rfl) (Nat.le_of_ble_eq_true rfl) (by kernel_rfl) ?_; intro W13 hB hP; have HS13 := Lib.hid (HS12.out.put 5 rfl (new := (wiA u.w)) hB hP); clear hB hP HS12))
            go_wp2_with fail
            refine region_b (Ms w noB _) (by kernel_rfl) (by kernel_rfl) HS13.out ?_
            clear HS13
            intro W14 hS
            have q5 := hS.on 5 rfl
            have q4 := hS.on 4 rfl
            have q0 := hS.on 0 rfl
            have HC0 := Lib.hid (fun (d : Nat) (os : Array Obj) => count_c u.x.nodes (grow (redrawn W14 d) os))
            have HC1 := Lib.hid (fun (d : Nat) (os : Array Obj) => and_c u.w.of up (grow (redrawn W14 d) os))
            have HC2 := Lib.hid (fun (d : Nat) (os : Array Obj) => not_c u.x.nodes (u.w.of &&& up) (grow (redrawn W14 d) os))
            have HS14 := Lib.hid hS
            clear hS
            repeat (first | go_big_quiet_skip | (refine wpQuiet_neq (by kernel_rfl) 24 _ _ _ rfl rfl rfl (by kernel_rfl) true (fun w9 => HEQ.out w9) ?_) | (refine wpQuiet_load_b (by kernel_rfl) 24 _ rfl (HS14.out.at_ 4 rfl) 4 (.agg #[.int .u64 (wn u.x.nodes 0 : Nat), .int .u64 (wn u.x.nodes 1 : Nat), .int .u64 (wn u.x.nodes 2 : Nat), .int .u64 (wn u.x.nodes 3 : Nat)]) rfl _ Tryd.underlying24 rfl (by kernel_rfl) (Nat.le_of_ble_eq_true rfl) rfl ?_) | (refine wpQuiet_load_b (by kernel_rfl) 24 _ rfl (HS14.out.at_ 4 rfl) 4 (.agg #[.int .u64 (wn u.x.nodes 0 : Nat), .int .u64 (wn u.x.nodes 1 : Nat), .int .u64 (wn u.x.nodes 2 : Nat), .int .u64 (wn u.x.nodes 3 : Nat)]) rfl _ Tryd.underlying24 rfl (by kernel_rfl) (Nat.le_of_ble_eq_true rfl) rfl ?_) | (refine wpQuiet_load_b (by kernel_rfl) 24 _ rfl (HS14.out.at_ 5 rfl) 4 (.agg #[.int .u64 (wn u.w.of 0 : Nat), .int .u64 (wn u.w.of 1 : Nat), .int .u64 (wn u.w.of 2 : Nat), .int .u64 (wn u.w.of 3 : Nat)]) rfl _ Tryd.underlying24 rfl (by kernel_rfl) (Nat.le_of_ble_eq_true rfl) rfl ?_) | (refine wpQuiet_load_b (by kernel_rfl) 24 _ rfl (HS14.out.at_ 0 rfl) 4 (.agg #[.int .u64 (wn up 0 : Nat), .int .u64 (wn up 1 : Nat), .int .u64 (wn up 2 : Nat), .int .u64 (wn up 3 : Nat)]) rfl _ Tryd.underlying24 rfl (by kernel_rfl) (Nat.le_of_ble_eq_true rfl) rfl ?_) | go_big_quiet_step (first | with_reducible exact Calls.regrown_of (HC0.out _ _) | with_reducible exact Calls.regrown_of (HC1.out _ _) | with_reducible exact Calls.regrown_of (HC2.out _ _)) | quiet_step (first | with_reducible exact Calls.regrown_of (HC0.out _ _) | with_reducible exact Calls.regrown_of (HC1.out _ _) | with_reducible exact Calls.regrown_of (HC2.out _ _)))
            refine wpQuiet_nil ?_
            intro W15 hb
            have HS15 := Lib.hid (HS14.out.after hb)
            clear hb HS14 q5 q4 q0 HC0 HC1 HC2
            obtain ⟨r0a, r0b, r0c⟩ := HS15.out.rules 0 rfl
            go_wp2_with fail
            clear r0a r0b r0c
            clear hcn hkk2
            go_loopw [110] (fun i wr => ∃ kk : Nat, kk ≤ n ∧ i = .int .i64 (kk : Nat) ∧ Hid (Ms w noB [(.blk g1 28 (scA now up A n c B m d)), .all [rowPl S1 e1 σ.s, rowPl P1 f1 σ.p], rowPl (some ad) c7 Z, rowPl A8 c8 R, (.blk g9 47 (plA u.x)), (.blk g12 49 (wiA u.w))] wr)) (fun i _ => n - (intOf i).toNat)
            case atStart => exact ⟨0, by omega, rfl, HS15⟩
            case round =>
              obtain ⟨i, hin, rfl, HS16⟩ := hrel
              by_cases hlti : i < n
              · have hltI : (i : Int) < (n : Int) := by omega
                obtain ⟨bd, y, hBe, hy, hc⟩ := (HA.out.below HS16.out.below).at_ hlti
                subst hBe
                have HC := Lib.hid hc
                have HRU := Lib.hid (HL.out.run k u HU.out y (List.mem_of_getElem? hy))
                clear hc hy
                by_cases hmt : u.x.at_ < max y.end_ (now + 1)
                · have HE2 := Lib.hid (fun w9 => show (Op.equalIn 10000 24 (nsV (u.x.nodes &&& y.nodes)) (nsV emptyS)).run Tryd.prog w9 = .ok true w9 by rw [eqNs_run, HRU.out hmt]; simp)
                  go_wp2_with (first
                    | (have hq := HC; clear hq; refine wpList_load_ad (by kernel_rfl) 55 _ rfl (bd.add (i * 5)) ((ruL y)) HC.out rfl _ (ruV y) rfl Tryd.underlying55 rfl (by kernel_rfl) ?_; clear HC)
                    | (have hq := HS16; clear hq; (with_reducible refine atAlloc ?_); refine wpList_alloc_b rfl (some 14) rfl 55 (#[.int .u64 0, .int .u64 0, .int .u64 0, .int .u64 0, .int .i64 0]) (by kernel_rfl) ?_; intro g17 W17 hb hB hg; have HS17 := Lib.hid (HS16.out.new hb hB hg); clear hb hB hg HS16)
                    | (have hq := HS17; clear hq; (with_reducible refine atStore ?_); refine wpList_store_at rfl 55 _ _ rfl (HS17.out.at_ 6 rfl) (ruV y) rfl rfl (by kernel_rfl) (Nat.le_of_ble_eq_true rfl) (by kernel_rfl) ?_; intro W18 hB hP; have HS18 := Lib.hid (HS17.out.put 6 rfl (new := (ruA y)) hB hP); clear hB hP HS17; obtain ⟨r4a, r4b, r4c⟩ := HS18.out.rules 4 rfl; obtain ⟨r6a, r6b, r6c⟩ := HS18.out.rules 6 rfl; obtain ⟨r0a, r0b, r0c⟩ := HS18.out.rules 0 rfl)
                    | (have hq := HS18; clear hq; refine wpList_load_g (by kernel_rfl) 24 _ rfl (HS18.out.at_ 4 rfl) 4 (.agg #[.int .u64 (wn u.x.nodes 0 : Nat), .int .u64 (wn u.x.nodes 1 : Nat), .int .u64 (wn u.x.nodes 2 : Nat), .int .u64 (wn u.x.nodes 3 : Nat)]) rfl _ Tryd.underlying24 rfl (by kernel_rfl) (Nat.le_of_ble_eq_true rfl) rfl ?_)
                    | (have hq := HS18; clear hq; refine wpList_load_g (by kernel_rfl) 24 _ rfl (HS18.out.at_ 6 rfl) 4 (.agg #[.int .u64 (wn y.nodes 0 : Nat), .int .u64 (wn y.nodes 1 : Nat), .int .u64 (wn y.nodes 2 : Nat), .int .u64 (wn y.nodes 3 : Nat)]) rfl _ Tryd.underlying24 rfl (by kernel_rfl) (Nat.le_of_ble_eq_true rfl) rfl ?_))
                  refine (and_c u.x.nodes y.nodes _).mono ?_
                  rintro e W19 ⟨rfl, hb⟩
                  have HS19 := Lib.hid (HS18.out.after hb)
                  clear hb HS18 r4a r4b r4c r6a r6b r6c r0a r0b r0c
                  go_wp2_with (have hq := HS19; clear hq; refine wpList_neq (by kernel_rfl) 24 _ _ _ rfl rfl rfl (by kernel_rfl) true (HE2.out _) ?_)
                  refine ⟨⟨i + 1, by omega, by go_num, ?_⟩, by simp [intOf]; omega⟩
                  exact Lib.hid (Ms.cut (l := [(.blk g1 28 (scA now up (some bd) n c B m d)), .all [rowPl S1 e1 σ.s, rowPl P1 f1 σ.p], rowPl (some ad) c7 Z, rowPl A8 c8 R, (.blk g9 47 (plA u.x)), (.blk g12 49 (wiA u.w))]) (k := [(.blk g17 55 (ruA y))]) HS19.out)
                · have hmt2 : max y.end_ (now + 1) ≤ u.x.at_ := by omega
                  go_wp2_with (first
                    | (have hq := HC; clear hq; refine wpList_load_ad (by kernel_rfl) 55 _ rfl (bd.add (i * 5)) ((ruL y)) HC.out rfl _ (ruV y) rfl Tryd.underlying55 rfl (by kernel_rfl) ?_; clear HC)
                    | (have hq := HS16; clear hq; (with_reducible refine atAlloc ?_); refine wpList_alloc_b rfl (some 14) rfl 55 (#[.int .u64 0, .int .u64 0, .int .u64 0, .int .u64 0, .int .i64 0]) (by kernel_rfl) ?_; intro g17 W17 hb hB hg; have HS17 := Lib.hid (HS16.out.new hb hB hg); clear hb hB hg HS16)
                    | (have hq := HS17; clear hq; (with_reducible refine atStore ?_); refine wpList_store_at rfl 55 _ _ rfl (HS17.out.at_ 6 rfl) (ruV y) rfl rfl (by kernel_rfl) (Nat.le_of_ble_eq_true rfl) (by kernel_rfl) ?_; intro W18 hB hP; have HS18 := Lib.hid (HS17.out.put 6 rfl (new := (ruA y)) hB hP); clear hB hP HS17; obtain ⟨r4a, r4b, r4c⟩ := HS18.out.rules 4 rfl; obtain ⟨r6a, r6b, r6c⟩ := HS18.out.rules 6 rfl; obtain ⟨r0a, r0b, r0c⟩ := HS18.out.rules 0 rfl))
                  refine ⟨⟨i + 1, by omega, by go_num, ?_⟩, by simp [intOf]; omega⟩
                  exact Lib.hid (Ms.cut (l := [(.blk g1 28 (scA now up (some bd) n c B m d)), .all [rowPl S1 e1 σ.s, rowPl P1 f1 σ.p], rowPl (some ad) c7 Z, rowPl A8 c8 R, (.blk g9 47 (plA u.x)), (.blk g12 49 (wiA u.w))]) (k := [(.blk g17 55 (ruA y))]) HS18.out)
              · obtain rfl : i = n := by omega
                go_wp2_with fail
                go_loopw [135] (fun j wr => ∃ kk : Nat, kk ≤ R.length ∧ j = .int .i64 (kk : Nat) ∧ Hid (Ms w noB [(.blk g1 28 (scA now up A i c B m d)), .all [rowPl S1 e1 σ.s, rowPl P1 f1 σ.p], rowPl (some ad) c7 Z, rowPl A8 c8 R, (.blk g9 47 (plA u.x)), (.blk g12 49 (wiA u.w))] wr)) (fun j _ => R.length - (intOf j).toNat)
                case atStart => exact ⟨0, by omega, rfl, HS16⟩
                case round =>
                  obtain ⟨j, hjn, rfl, HS17⟩ := hrel
                  by_cases hltj : j < R.length
                  · have hltJ : (j : Int) < (R.length : Int) := by omega
                    obtain ⟨bd, y, hBe, hy, hc⟩ := (HS17.out.rdP 3 rfl rfl).at_ hltj
                    subst hBe
                    have hjk : j < k := by have := HTL.out; omega
                    rw [HRe.out, List.getElem?_take, if_pos hjk, HZe.out] at hy
                    obtain ⟨v, hv, rfl⟩ : ∃ v, (l1 ++ l2)[j]? = some v ∧ v.x = y := by rw [List.getElem?_map] at hy; exact Option.map_eq_some_iff.1 hy
                    have HC := Lib.hid hc
                    have HOV := Lib.hid (HL.out.ok j v hv)
                    have HTW := Lib.hid (HL.out.two k j u v HU.out hv (by omega))
                    have hid1 : (v.x.id == u.x.id) = false := beq_false_of_ne (fun e => HTW.out.1 e.symm)
                    have j1 := HOV.out.2.2.1
                    have j2 := HOV.out.2.2.2.1
                    have j3 := HOV.out.2.2.2.2.1
                    have j4 := HOV.out.2.2.2.2.2
                    clear hc hy hv
                    by_cases t1 : u.x.at_ < v.x.at_ + v.w.long
                    · by_cases t2 : v.x.at_ < u.x.at_ + u.w.long
                      · have HE2 := Lib.hid (fun w9 => show (Op.equalIn 10000 24 (nsV (u.x.nodes &&& v.x.nodes)) (nsV emptyS)).run Tryd.prog w9 = .ok true w9 by rw [eqNs_run, HTW.out.2 t1 t2]; simp)
                        go_wp2_with (first
                          | (have hq := HC; clear hq; refine wpList_load_ad (by kernel_rfl) 47 _ rfl (bd.add (j * 6)) ((plL v.x)) HC.out rfl _ (plV v.x) rfl Tryd.underlying47 rfl (by kernel_rfl) ?_; clear HC)
                          | (have hq := HS17; clear hq; (with_reducible refine atAlloc ?_); refine wpList_alloc_b rfl (some 16) rfl 47 (#[.int .i64 0, .int .i64 0, .int .u64 0, .int .u64 0, .int .u64 0, .int .u64 0]) (by kernel_rfl) ?_; intro g18 W18 hb hB hg; have HS18 := Lib.hid (HS17.out.new hb hB hg); clear hb hB hg HS17)
                          | (have hq := HS18; clear hq; (with_reducible refine atStore ?_); refine wpList_store_at rfl 47 _ _ rfl (HS18.out.at_ 6 rfl) (plV v.x) rfl rfl (by kernel_rfl) (Nat.le_of_ble_eq_true rfl) (by kernel_rfl) ?_; intro W19 hB hP; have HS19 := Lib.hid (HS18.out.put 6 rfl (new := (plA v.x)) hB hP); clear hB hP HS18; obtain ⟨r6a, r6b, r6c⟩ := HS19.out.rules 6 rfl)
                          | (have hq := HS19; clear hq; (with_reducible refine atLoad ?_); refine wpList_load_at rfl 28 _ rfl (HS19.out.at_ 0 rfl) 7 (scV now up A i c B m d) rfl _ Tryd.underlying28 rfl (by kernel_rfl) (Nat.le_of_ble_eq_true rfl) rfl ?_))
                        refine (wish_k now up A i c B m d ws v.w v.x.id _ (HB.out.below HS19.out.below) HOV.out.1 HOV.out.2.1).mono ?_
                        rintro e W20 ⟨rfl, hb⟩
                        have HS20 := Lib.hid (HS19.out.after hb)
                        clear hb HS19 r6a r6b r6c
                        go_wp2_with (first
                          | (have hq := HS20; clear hq; (with_reducible refine atAlloc ?_); refine wpList_alloc_b rfl (some 17) rfl 49 (#[.int .i64 0, .int .i64 0, .int .i64 0, .int .u64 0, .int .u64 0, .int .u64 0, .int .u64 0]) (by kernel_rfl) ?_; intro g21 W21 hb hB hg; have HS21 := Lib.hid (HS20.out.new hb hB hg); clear hb hB hg HS20)
                          | (have hq := HS21; clear hq; (with_reducible refine atStore ?_); refine wpList_store_at rfl 49 _ _ rfl (HS21.out.at_ 7 rfl) (wiV v.w) rfl rfl (by kernel_rfl) (Nat.le_of_ble_eq_true rfl) (by kernel_rfl) ?_; intro W22 hB hP; have HS22 := Lib.hid (HS21.out.put 7 rfl (new := (wiA v.w)) hB hP); clear hB hP HS21; obtain ⟨r6a, r6b, r6c⟩ := HS22.out.rules 6 rfl; obtain ⟨r4a, r4b, r4c⟩ := HS22.out.rules 4 rfl; obtain ⟨r7a, r7b, r7c⟩ := HS22.out.rules 7 rfl; obtain ⟨r5a, r5b, r5c⟩ := HS22.out.rules 5 rfl)
                          | (have hq := HS22; clear hq; refine wpList_load_g (by kernel_rfl) 24 _ rfl (HS22.out.at_ 4 rfl) 4 (.agg #[.int .u64 (wn u.x.nodes 0 : Nat), .int .u64 (wn u.x.nodes 1 : Nat), .int .u64 (wn u.x.nodes 2 : Nat), .int .u64 (wn u.x.nodes 3 : Nat)]) rfl _ Tryd.underlying24 rfl (by kernel_rfl) (Nat.le_of_ble_eq_true rfl) rfl ?_)
                          | (have hq := HS22; clear hq; refine wpList_load_g (by kernel_rfl) 24 _ rfl (HS22.out.at_ 6 rfl) 4 (.agg #[.int .u64 (wn v.x.nodes 0 : Nat), .int .u64 (wn v.x.nodes 1 : Nat), .int .u64 (wn v.x.nodes 2 : Nat), .int .u64 (wn v.x.nodes 3 : Nat)]) rfl _ Tryd.underlying24 rfl (by kernel_rfl) (Nat.le_of_ble_eq_true rfl) rfl ?_))
                        refine (and_c u.x.nodes v.x.nodes _).mono ?_
                        rintro e W23 ⟨rfl, hb⟩
                        have HS23 := Lib.hid (HS22.out.after hb)
                        clear hb HS22 r6a r6b r6c r4a r4b r4c r7a r7b r7c r5a r5b r5c
                        go_wp2_with (have hq := HS23; clear hq; refine wpList_neq (by kernel_rfl) 24 _ _ _ rfl rfl rfl (by kernel_rfl) true (HE2.out _) ?_)
                        refine ⟨⟨j + 1, by omega, by go_num, ?_⟩, by simp [intOf]; omega⟩
                        exact Lib.hid (Ms.cut (l := [(.blk g1 28 (scA now up A i c B m d)), .all [rowPl S1 e1 σ.s, rowPl P1 f1 σ.p], rowPl (some ad) c7 Z, rowPl (some bd) c8 R, (.blk g9 47 (plA u.x)), (.blk g12 49 (wiA u.w))]) (k := [(.blk g18 47 (plA v.x)), (.blk g21 49 (wiA v.w))]) HS23.out)
                      · have t2n : u.x.at_ + u.w.long ≤ v.x.at_ := by omega
                        go_wp2_with (first
                          | (have hq := HC; clear hq; refine wpList_load_ad (by kernel_rfl) 47 _ rfl (bd.add (j * 6)) ((plL v.x)) HC.out rfl _ (plV v.x) rfl Tryd.underlying47 rfl (by kernel_rfl) ?_; clear HC)
                          | (have hq := HS17; clear hq; (with_reducible refine atAlloc ?_); refine wpList_alloc_b rfl (some 16) rfl 47 (#[.int .i64 0, .int .i64 0, .int .u64 0, .int .u64 0, .int .u64 0, .int .u64 0]) (by kernel_rfl) ?_; intro g18 W18 hb hB hg; have HS18 := Lib.hid (HS17.out.new hb hB hg); clear hb hB hg HS17)
                          | (have hq := HS18; clear hq; (with_reducible refine atStore ?_); refine wpList_store_at rfl 47 _ _ rfl (HS18.out.at_ 6 rfl) (plV v.x) rfl rfl (by kernel_rfl) (Nat.le_of_ble_eq_true rfl) (by kernel_rfl) ?_; intro W19 hB hP; have HS19 := Lib.hid (HS18.out.put 6 rfl (new := (plA v.x)) hB hP); clear hB hP HS18; obtain ⟨r6a, r6b, r6c⟩ := HS19.out.rules 6 rfl)
                          | (have hq := HS19; clear hq; (with_reducible refine atLoad ?_); refine wpList_load_at rfl 28 _ rfl (HS19.out.at_ 0 rfl) 7 (scV now up A i c B m d) rfl _ Tryd.underlying28 rfl (by kernel_rfl) (Nat.le_of_ble_eq_true rfl) rfl ?_))
                        refine (wish_k now up A i c B m d ws v.w v.x.id _ (HB.out.below HS19.out.below) HOV.out.1 HOV.out.2.1).mono ?_
                        rintro e W20 ⟨rfl, hb⟩
                        have HS20 := Lib.hid (HS19.out.after hb)
                        clear hb HS19 r6a r6b r6c
                        go_wp2_with (first
                          | (have hq := HS20; clear hq; (with_reducible refine atAlloc ?_); refine wpList_alloc_b rfl (some 17) rfl 49 (#[.int .i64 0, .int .i64 0, .int .i64 0, .int .u64 0, .int .u64 0, .int .u64 0, .int .u64 0]) (by kernel_rfl) ?_; intro g21 W21 hb hB hg; have HS21 := Lib.hid (HS20.out.new hb hB hg); clear hb hB hg HS20)
                          | (have hq := HS21; clear hq; (with_reducible refine atStore ?_); refine wpList_store_at rfl 49 _ _ rfl (HS21.out.at_ 7 rfl) (wiV v.w) rfl rfl (by kernel_rfl) (Nat.le_of_ble_eq_true rfl) (by kernel_rfl) ?_; intro W22 hB hP; have HS22 := Lib.hid (HS21.out.put 7 rfl (new := (wiA v.w)) hB hP); clear hB hP HS21; obtain ⟨r6a, r6b, r6c⟩ := HS22.out.rules 6 rfl; obtain ⟨r4a, r4b, r4c⟩ := HS22.out.rules 4 rfl; obtain ⟨r7a, r7b, r7c⟩ := HS22.out.rules 7 rfl; obtain ⟨r5a, r5b, r5c⟩ := HS22.out.rules 5 rfl))
                        refine ⟨⟨j + 1, by omega, by go_num, ?_⟩, by simp [intOf]; omega⟩
                        exact Lib.hid (Ms.cut (l := [(.blk g1 28 (scA now up A i c B m d)), .all [rowPl S1 e1 σ.s, rowPl P1 f1 σ.p], rowPl (some ad) c7 Z, rowPl (some bd) c8 R, (.blk g9 47 (plA u.x)), (.blk g12 49 (wiA u.w))]) (k := [(.blk g18 47 (plA v.x)), (.blk g21 49 (wiA v.w))]) HS22.out)
                    · have t1n : v.x.at_ + v.w.long ≤ u.x.at_ := by omega
                      go_wp2_with (first
                        | (have hq := HC; clear hq; refine wpList_load_ad (by kernel_rfl) 47 _ rfl (bd.add (j * 6)) ((plL v.x)) HC.out rfl _ (plV v.x) rfl Tryd.underlying47 rfl (by kernel_rfl) ?_; clear HC)
                        | (have hq := HS17; clear hq; (with_reducible refine atAlloc ?_); refine wpList_alloc_b rfl (some 16) rfl 47 (#[.int .i64 0, .int .i64 0, .int .u64 0, .int .u64 0, .int .u64 0, .int .u64 0]) (by kernel_rfl) ?_; intro g18 W18 hb hB hg; have HS18 := Lib.hid (HS17.out.new hb hB hg); clear hb hB hg HS17)
                        | (have hq := HS18; clear hq; (with_reducible refine atStore ?_); refine wpList_store_at rfl 47 _ _ rfl (HS18.out.at_ 6 rfl) (plV v.x) rfl rfl (by kernel_rfl) (Nat.le_of_ble_eq_true rfl) (by kernel_rfl) ?_; intro W19 hB hP; have HS19 := Lib.hid (HS18.out.put 6 rfl (new := (plA v.x)) hB hP); clear hB hP HS18; obtain ⟨r6a, r6b, r6c⟩ := HS19.out.rules 6 rfl)
                        | (have hq := HS19; clear hq; (with_reducible refine atLoad ?_); refine wpList_load_at rfl 28 _ rfl (HS19.out.at_ 0 rfl) 7 (scV now up A i c B m d) rfl _ Tryd.underlying28 rfl (by kernel_rfl) (Nat.le_of_ble_eq_true rfl) rfl ?_))
                      refine (wish_k now up A i c B m d ws v.w v.x.id _ (HB.out.below HS19.out.below) HOV.out.1 HOV.out.2.1).mono ?_
                      rintro e W20 ⟨rfl, hb⟩
                      have HS20 := Lib.hid (HS19.out.after hb)
                      clear hb HS19 r6a r6b r6c
                      go_wp2_with (first
                        | (have hq := HS20; clear hq; (with_reducible refine atAlloc ?_); refine wpList_alloc_b rfl (some 17) rfl 49 (#[.int .i64 0, .int .i64 0, .int .i64 0, .int .u64 0, .int .u64 0, .int .u64 0, .int .u64 0]) (by kernel_rfl) ?_; intro g21 W21 hb hB hg; have HS21 := Lib.hid (HS20.out.new hb hB hg); clear hb hB hg HS20)
                        | (have hq := HS21; clear hq; (with_reducible refine atStore ?_); refine wpList_store_at rfl 49 _ _ rfl (HS21.out.at_ 7 rfl) (wiV v.w) rfl rfl (by kernel_rfl) (Nat.le_of_ble_eq_true rfl) (by kernel_rfl) ?_; intro W22 hB hP; have HS22 := Lib.hid (HS21.out.put 7 rfl (new := (wiA v.w)) hB hP); clear hB hP HS21; obtain ⟨r6a, r6b, r6c⟩ := HS22.out.rules 6 rfl; obtain ⟨r4a, r4b, r4c⟩ := HS22.out.rules 4 rfl; obtain ⟨r7a, r7b, r7c⟩ := HS22.out.rules 7 rfl))
                      refine ⟨⟨j + 1, by omega, by go_num, ?_⟩, by simp [intOf]; omega⟩
                      exact Lib.hid (Ms.cut (l := [(.blk g1 28 (scA now up A i c B m d)), .all [rowPl S1 e1 σ.s, rowPl P1 f1 σ.p], rowPl (some ad) c7 Z, rowPl (some bd) c8 R, (.blk g9 47 (plA u.x)), (.blk g12 49 (wiA u.w))]) (k := [(.blk g18 47 (plA v.x)), (.blk g21 49 (wiA v.w))]) HS22.out)
                  · obtain rfl : j = R.length := by omega
                    have HRL := Lib.hid (show (R.length + 1) * 48 ≤ 140737488355328 by have := HTL.out; have := HNN.out; omega)
                    go_wp2_with (first
                      | (have hq := HS17; clear hq; (with_reducible refine atLoad ?_); refine wpList_load_at rfl 47 _ rfl (HS17.out.at_ 4 rfl) 6 (plV u.x) rfl _ Tryd.underlying47 rfl (by kernel_rfl) (Nat.le_of_ble_eq_true rfl) rfl ?_)
                      | (have hq := HS17; clear hq; (with_reducible refine atBuild ?_); refine wpList_build_b rfl (some 183) rfl 47 1 (#[.int .i64 u.x.id, .int .i64 u.x.at_, .int .u64 (wn u.x.nodes 0 : Nat), .int .u64 (wn u.x.nodes 1 : Nat), .int .u64 (wn u.x.nodes 2 : Nat), .int .u64 (wn u.x.nodes 3 : Nat)]) (by kernel_rfl) ?_; intro g18 W18 hb hB hg; have HS18 := Lib.hid (HS17.out.new hb hB hg); clear hb hB hg HS17)
                      | (have hq := HS18; clear hq; refine append_one HS18.out 3 6 rfl _ _ 31 47 6 48 plL (.agg #[.int .i64 0, .int .i64 0, .int .u64 0, .int .u64 0, .int .u64 0, .int .u64 0]) rfl Tryd.underlying31 (by kernel_rfl) rfl (by decide) A8 c8 R u.x g18 _ _ rfl rfl rfl rfl rfl rfl rfl (HRL.out) (by simp only [maxLen]; have := HRL.out; omega) ?_; intro A19 c19 W19 hM; have HS19 := Lib.hid hM; clear hM HS18))
                    refine ⟨⟨k + 1, A19, c19, by omega, by go_num, by rw [HRX.out, show (R ++ [u.x]).length = R.length + 1 by simp], ?_⟩, by simp [intOf]; omega⟩
                    rw [HRX.out]
                    exact Lib.hid (Ms.cut (l := [(.blk g1 28 (scA now up A i c B m d)), .all [rowPl S1 e1 σ.s, rowPl P1 f1 σ.p], rowPl (some ad) c7 Z, rowS 47 6 plL A19 c19 (R ++ [u.x])]) (k := [(.blk g9 47 (plA u.x)), (.blk g12 49 (wiA u.w)), (.blk g18 47 #[.int .i64 u.x.id, .int .i64 u.x.at_, .int .u64 (wn u.x.nodes 0 : Nat), .int .u64 (wn u.x.nodes 1 : Nat), .int .u64 (wn u.x.nodes 2 : Nat), .int .u64 (wn u.x.nodes 3 : Nat)])]) HS19.out)
          · obtain rfl : k = N := by omega
            go_wp2_with fail
            refine (alive_c _ (HTab.out.after HS8.out.below)).mono ?_
            rintro e W9 ⟨rfl, hb⟩
            have HS9 := Lib.hid (HS8.out.after hb)
            clear hb HS8
            go_wp2_with fail
            go_ret
            exact ⟨rfl, HS9.out.below⟩
      · have HR := Lib.hid hR
        clear hR
        go_wp2_with (first
          | (have hq := HS0; clear hq; (with_reducible refine atBox ?_); refine wpList_alloc_b rfl (some 2) rfl 28 ((scA now up A n c B m d)) (by kernel_rfl) ?_; intro g1 W1 hb hB hg; have HS1 := Lib.hid (HS0.out.new hb hB hg); clear hb hB hg HS0; obtain ⟨r0a, r0b, r0c⟩ := HS1.out.rules 0 rfl)
          | (have hq := HS1; clear hq; (with_reducible refine atLoad ?_); refine wpList_load_at rfl 28 _ rfl (HS1.out.at_ 0 rfl) 7 (scV now up A n c B m d) rfl _ Tryd.underlying28 rfl (by kernel_rfl) (Nat.le_of_ble_eq_true rfl) rfl ?_))
        refine (theirs_c now up A n c rs B m d ws _ (HA.out.below HS1.out.below) (HB.out.below HS1.out.below) (by omega) (by omega)).mono ?_
        rintro e W2 ⟨A1, c1, B1, d1, rfl, hA1, hB1, hb⟩
        have HS2 := Lib.hid (HS1.out.after hb)
        clear hb HS1 r0a r0b r0c
        have HA1 := Lib.hid hA1
        have HB1 := Lib.hid hB1
        clear hA1 hB1
        go_wp2_with fail
        refine (pass_no now up A1 n c1 rs B1 m d1 ws mode _ HA1.out HB1.out HI.out HR.out).mono ?_
        rintro e W3 ⟨rfl, hb⟩
        have HS3 := Lib.hid (HS2.out.after hb)
        clear hb HS2
        go_wp2_with fail
        refine (alive_c _ (HTab.out.after HS3.out.below)).mono ?_
        rintro e W4 ⟨rfl, hb⟩
        have HS4 := Lib.hid (HS3.out.after hb)
        clear hb HS3
        go_wp2_with fail
        go_ret
        exact ⟨rfl, HS4.out.below⟩
end Go.Proofs.YtkgphbjneaagoaaDoor
