/- Back: BackAlone. -/
import Derived.Test.YtkgphbjneaagoaaDoorGk
set_option linter.unusedVariables false
set_option maxRecDepth 100000
namespace Go.Proofs.YtkgphbjneaagoaaDoor
open Go.RowKit Go.Sort

/-- What Pass answers, in numbers: the answer is one object. -/
def PassM (w : World) (m : Nat) (σ : PS) (e : Ending) (w' : World) : Prop := ∃ As ns cs Ap np cp, e = .returned (.tuple #[.slice As ns cs, .slice Ap np cp, .int .i64 0]) ∧ (σ.s.length = ns ∧ σ.p.length = np ∧ ns ≤ cs ∧ cs ≤ 9223372036854775807 ∧ np ≤ cp ∧ cp ≤ 9223372036854775807 ∧ ns ≤ m ∧ np ≤ m) ∧ Ms w noB [.all [rowPl As cs σ.s, rowPl Ap cp σ.p]] w'
theorem pass_y (now : Int) (up : NS) (A : Option Addr) (n c : Nat) (rs : List Ru) (B : Option Addr) (m d : Nat) (ws : List Wi) (mode : Int) (σ : PS) (w : World) (hA : RdR w A n rs) (hB : RdW w B m ws) (hb : ∀ x ∈ ws, -9223372036854775808 ≤ x.id ∧ x.id ≤ 9223372036854775807) (hR : RightP now up rs ws) (h0 : 0 ≤ mode) (h2 : mode ≤ 2) (hT : TabW w) (hσ : σ = passP mode up now rs ws) :
    Calls Tryd.prog 11 #[scV now up A n c B m d, .int .i64 mode] w (PassM w m σ) := by
  subst hσ
  exact (pass_yes now up A n c rs B m d ws mode w hA hB hb hR h0 h2 hT).mono fun e w' ⟨As, cs, Ap, cp, he, hs, h1, hp, h3, _, hM⟩ => ⟨As, _, cs, Ap, _, cp, he, ⟨rfl, rfl, h1.1, h1.2, h3.1, h3.2, by
    have := (pass_goo (mode := mode) (up := up) hR.n0 hR.n1 rs ws).2; have := hB.1; omega, by
    have := (pass_goo (mode := mode) (up := up) hR.n0 hR.n1 rs ws).2; have := hB.1; omega⟩, hM⟩
theorem Ms.ansS {w W : World} {ex : Nat → Prop} {L : List Own} (h : Ms w ex L W) (i : Nat) {A B : Option Addr} {c d n : Nat} {S T : List Pl} (hi : L[i]? = some (.all [rowPl A c S, rowPl B d T])) (hn : S.length = n) : RdPl W A n S := hn ▸ rowS_read (fun _ => rfl) ((h.ok i _ hi).1 0 _ rfl)
theorem Ms.ansP {w W : World} {ex : Nat → Prop} {L : List Own} (h : Ms w ex L W) (i : Nat) {A B : Option Addr} {c d n : Nat} {S T : List Pl} (hi : L[i]? = some (.all [rowPl A c S, rowPl B d T])) (hn : T.length = n) : RdPl W B n T := hn ▸ rowS_read (fun _ => rfl) ((h.ok i _ hi).1 1 _ rfl)
theorem RightP.take {now : Int} {up : NS} {rs : List Ru} {ws : List Wi} (h : RightP now up rs ws) (k : Nat) : RightP now up rs (ws.take k) := ⟨h.n0, h.n1, h.lr, by have := h.lw; have := List.length_take_le' k ws; omega, h.runs, h.wish.take k⟩
/-- The first of some plans. -/
theorem RdS.first {w : World} {A : Option Addr} {n k : Nat} {l t : List Pl} (h : RdPl w A n l) (hk : k ≤ n) (ht : t = l.take t.length) (hl : t.length = k) : RdPl w A k t := by
  have h1 := h.take hk
  rw [← hl, ← ht, hl] at h1
  exact h1
set_option maxHeartbeats 32000000 in
theorem backAlone_w (now : Int) (up : NS) (A : Option Addr) (n c : Nat) (rs : List Ru) (B : Option Addr) (m d : Nat) (ws : List Wi) (many : Int) (hy : 0 ≤ many ∧ many ≤ 255) (w : World) (hA : RdR w A n rs) (hB : RdW w B m ws) (hb : ∀ x ∈ ws, -9223372036854775808 ≤ x.id ∧ x.id ≤ 9223372036854775807) (hmd : m ≤ d ∧ d ≤ 9223372036854775807) (hT : TabW w) :
    Calls Tryd.prog 5 #[scV now up A n c B m d, .int .u8 many] w fun e w' => e = .returned (.bool true) ∧ Below w.heap.size w w' := by
  have HA := Lib.hid hA
  have HB := Lib.hid hB
  have HI := Lib.hid hb
  have HTab := Lib.hid hT
  have HMD := Lib.hid hmd
  have HLw := Lib.hid (show ws.length = m from hB.1)
  have HLr := Lib.hid (show rs.length = n from hA.1)
  have hnI : (n : Int) ≤ 9223372036854775807 := by have := hA.2.1; omega
  have hmI : (m : Int) ≤ 9223372036854775807 := by have := hB.2.1; omega
  clear hA hB hb hT hmd
  go_enter Tryd.func5, Tryd.ntmps5
  have HS0 := Lib.hid (Ms.nil w noB)
  by_cases h60 : 60 < m
  · have h60I : (60 : Int) < (m : Int) := by omega
    go_wp2_with (have hq := HS0; clear hq; (with_reducible refine atBox ?_); refine wpList_alloc_b rfl (some 2) rfl 28 ((scA now up A n c B m d)) (by kernel_rfl) ?_; intro g1 W1 hb hB hg; have HS1 := Lib.hid (HS0.out.new hb hB hg); clear hb hB hg HS0; obtain ⟨r0a, r0b, r0c⟩ := HS1.out.rules 0 rfl)
    refine (alive_c _ (HTab.out.after HS1.out.below)).mono ?_
    rintro e W2 ⟨rfl, hb⟩
    have HS2 := Lib.hid (HS1.out.after hb)
    clear hb HS1 r0a r0b r0c
    go_wp2_with fail
    go_ret
    exact ⟨rfl, HS2.out.below⟩
  · have h60I : (m : Int) ≤ 60 := by omega
    by_cases h61 : 60 < n
    · have h61I : (60 : Int) < (n : Int) := by omega
      go_wp2_with (have hq := HS0; clear hq; (with_reducible refine atBox ?_); refine wpList_alloc_b rfl (some 2) rfl 28 ((scA now up A n c B m d)) (by kernel_rfl) ?_; intro g1 W1 hb hB hg; have HS1 := Lib.hid (HS0.out.new hb hB hg); clear hb hB hg HS0; obtain ⟨r0a, r0b, r0c⟩ := HS1.out.rules 0 rfl)
      refine (alive_c _ (HTab.out.after HS1.out.below)).mono ?_
      rintro e W2 ⟨rfl, hb⟩
      have HS2 := Lib.hid (HS1.out.after hb)
      clear hb HS1 r0a r0b r0c
      go_wp2_with fail
      go_ret
      exact ⟨rfl, HS2.out.below⟩
    · have h61I : (n : Int) ≤ 60 := by omega
      by_cases hR : RightP now up rs ws
      · have HR := Lib.hid hR
        clear hR
        obtain ⟨kk, hkk⟩ : ∃ kk : Nat, kk = (many % ((m : Int) + 1)).toNat := ⟨_, rfl⟩
        have hk1 : many % ((m : Int) + 1) = (kk : Int) := by have := Int.emod_nonneg many (show (m : Int) + 1 ≠ 0 by omega); omega
        have hk2 : kk ≤ m := by have := Int.emod_lt_of_pos many (show 0 < (m : Int) + 1 by omega); omega
        have HKm := Lib.hid hk2
        clear hkk
        have HBk := Lib.hid (fun (W : World) (hb : Below w.heap.size w W) => (HB.out.below hb).take HKm.out)
        have HIk := Lib.hid (fun (y : Wi) (hy : y ∈ ws.take kk) => HI.out y (take_sub _ _ y hy))
        have HRk := Lib.hid (HR.out.take kk)
        have HPT := Lib.hid (pass_take 2 up now rs ws kk)
        obtain ⟨σ, hσ⟩ : ∃ σ, σ = passP 2 up now rs ws := ⟨_, rfl⟩
        obtain ⟨τ, hτ⟩ : ∃ τ, τ = passP 2 up now rs (ws.take kk) := ⟨_, rfl⟩
        have HSG := Lib.hid hσ
        have HTG := Lib.hid hτ
        rw [← hσ, ← hτ] at HPT
        clear hσ hτ
        have hkmI : (kk : Int) ≤ (m : Int) := by omega
        have hkdI : (kk : Int) ≤ (d : Int) := by have := HMD.out.1; omega
        have hk0I : (0 : Int) ≤ (kk : Int) := by omega
        have hdI : (m : Int) ≤ (d : Int) := by have := HMD.out.1; omega
        go_wp2_with (first
          | (have hq := HS0; clear hq; (with_reducible refine atBox ?_); refine wpList_alloc_b rfl (some 2) rfl 28 ((scA now up A n c B m d)) (by kernel_rfl) ?_; intro g1 W1 hb hB hg; have HS1 := Lib.hid (HS0.out.new hb hB hg); clear hb hB hg HS0; obtain ⟨r0a, r0b, r0c⟩ := HS1.out.rules 0 rfl)
          | (have hq := HS1; clear hq; (with_reducible refine atLoad ?_); refine wpList_load_at rfl 28 _ rfl (HS1.out.at_ 0 rfl) 7 (scV now up A n c B m d) rfl _ Tryd.underlying28 rfl (by kernel_rfl) (Nat.le_of_ble_eq_true rfl) rfl ?_))
        refine (theirs_c now up A n c rs B m d ws _ (HA.out.below HS1.out.below) (HB.out.below HS1.out.below) (by omega) (by omega)).mono ?_
        rintro e W2 ⟨A1, c1, B1, d1, rfl, hA1, hB1, hb⟩
        have HS2 := Lib.hid (HS1.out.after hb)
        clear hb HS1 r0a r0b r0c
        have HA1 := Lib.hid hA1
        have HB1 := Lib.hid hB1
        clear hA1 hB1
        go_wp2_with fail
        refine (pass_y now up A1 n c1 rs B1 m d1 ws 2 σ _ HA1.out HB1.out HI.out HR.out (by omega) (by omega) (HTab.out.after HS2.out.below) HSG.out).mono ?_
        rintro e W3 ⟨S1, s1, e1, P1, p1, f1, rfl, hN, hM⟩
        have HS3 := Lib.hid (HS2.out.made hM)
        clear hM HS2
        have HN1 := Lib.hid hN
        clear hN
        go_wp2_with (first
          | (have hq := HS3; clear hq; (with_reducible refine atLoad ?_); refine wpList_load_at rfl 28 _ rfl (HS3.out.at_ 0 rfl) 7 (scV now up A n c B m d) rfl _ Tryd.underlying28 rfl (by kernel_rfl) (Nat.le_of_ble_eq_true rfl) rfl ?_)
          | (have hq := HS3; clear hq; (with_reducible refine atAlloc ?_); refine wpList_alloc_b rfl (some 8) rfl 28 (#[.int .i64 0, .int .u64 0, .int .u64 0, .int .u64 0, .int .u64 0, .slice none 0 0, .slice none 0 0]) (by kernel_rfl) ?_; intro g4 W4 hb hB hg; have HS4 := Lib.hid (HS3.out.new hb hB hg); clear hb hB hg HS3)
          | (have hq := HS4; clear hq; (with_reducible refine atStore ?_); refine wpList_store_at rfl 28 _ _ rfl (HS4.out.at_ 2 rfl) (scV now up A n c B m d) rfl rfl (by kernel_rfl) (Nat.le_of_ble_eq_true rfl) (by kernel_rfl) ?_; intro W5 hB hP; have HS5 := Lib.hid (HS4.out.put 2 rfl (new := (scA now up A n c B m d)) hB hP); clear hB hP HS4))
        refine region_bt 11 (Ms w noB _) (by kernel_rfl) (by kernel_rfl) HS5.out ?_
        clear HS5
        intro W6 hS
        have q0 := hS.on 0 rfl
        have HS6 := Lib.hid hS
        clear hS
        simp only [List.take_succ_cons, List.take_zero, List.drop_succ_cons, List.drop_zero]
        repeat (first | go_big_quiet_skip | go_big_quiet_step (fail) | quiet_step (fail))
        refine wpQuiet_nil ?_
        intro W7 hb
        have HS7 := Lib.hid (HS6.out.after hb)
        clear hb HS6 q0
        refine wpList_store_at rfl 26 _ _ rfl (HS7.out.at_ 2 rfl) (.slice B kk d) rfl rfl (by kernel_rfl) (Nat.le_of_ble_eq_true rfl) (by kernel_rfl) ?_
        intro W8 hB hP
        have HS8 := Lib.hid (HS7.out.put 2 rfl (new := #[.int .i64 now, .int .u64 (wn up 0 : Nat), .int .u64 (wn up 1 : Nat), .int .u64 (wn up 2 : Nat), .int .u64 (wn up 3 : Nat), .slice A n c, .slice B kk d]) hB hP)
        clear hB hP HS7
        go_wp2_with (have hq := HS8; clear hq; (with_reducible refine atLoad ?_); refine wpList_load_at rfl 28 _ rfl (HS8.out.at_ 2 rfl) 7 (.agg #[.int .i64 now, .int .u64 (wn up 0 : Nat), .int .u64 (wn up 1 : Nat), .int .u64 (wn up 2 : Nat), .int .u64 (wn up 3 : Nat), .slice A n c, .slice B kk d]) rfl _ Tryd.underlying28 rfl (by kernel_rfl) (Nat.le_of_ble_eq_true rfl) rfl ?_)
        refine (theirs_c now up A n c rs B kk d (ws.take kk) _ (HA.out.below HS8.out.below) (HBk.out _ HS8.out.below) (by omega) (by omega)).mono ?_
        rintro e W9 ⟨A2, c2, B2, d2, rfl, hA1, hB1, hb⟩
        have HS9 := Lib.hid (HS8.out.after hb)
        clear hb HS8
        have HA2 := Lib.hid hA1
        have HB2 := Lib.hid hB1
        clear hA1 hB1
        go_wp2_with fail
        refine (pass_y now up A2 n c2 rs B2 kk d2 (ws.take kk) 2 τ _ HA2.out HB2.out HIk.out HRk.out (by omega) (by omega) (HTab.out.after HS9.out.below) HTG.out).mono ?_
        rintro e W10 ⟨S2, s2, e2, P2, p2, f2, rfl, hN, hM⟩
        have HS10 := Lib.hid (HS9.out.made hM)
        clear hM HS9
        have HN2 := Lib.hid hN
        clear hN
        have g1I : (s2 : Int) ≤ (s1 : Int) := by have := HN1.out.1; have := HN2.out.1; have := HPT.out.2.1; omega
        have g2I : (p2 : Int) ≤ (p1 : Int) := by have := HN1.out.2.1; have := HN2.out.2.1; have := HPT.out.2.2.2; omega
        go_wp2_with fail
        go_wp2_with fail
        have HR2s := Lib.hid (HS10.out.ansS 3 rfl HN2.out.1)
        have HR2p := Lib.hid (HS10.out.ansP 3 rfl HN2.out.2.1)
        have HR1s := Lib.hid ((HS10.out.ansS 1 rfl HN1.out.1).first (k := s2) (by omega) HPT.out.1 HN2.out.1)
        have HR1p := Lib.hid ((HS10.out.ansP 1 rfl HN1.out.2.1).first (k := p2) (by omega) HPT.out.2.2.1 HN2.out.2.1)
        have q1I : (s2 : Int) ≤ (e1 : Int) := by have := HN1.out; omega
        have q2I : (p2 : Int) ≤ (f1 : Int) := by have := HN1.out; omega
        have HQ := Lib.hid (show s2 ≤ 60 ∧ p2 ≤ 60 by have := HN2.out; omega)
        have HTb := Lib.hid (HTab.out.after HS10.out.below)
        go_region_held3 (fun W2 => Below W10.heap.size W10 W2)
          (first | exact (Below.refl _ _).drew | exact below_then ‹_› (Below.size ‹_›) hb)
          (first
            | ((with_reducible refine (ours_c S2 s2 e2 τ.s _ (HR2s.out.below ‹_›) (by have := HQ.out; omega)).mono ?_); rintro e w5 ⟨X1, x1, rfl, hR1, hb⟩; (try have hR2 := hR2.below hb))
            | ((with_reducible refine (ours_c S1 s2 e1 τ.s _ (HR1s.out.below ‹_›) (by have := HQ.out; omega)).mono ?_); rintro e w5 ⟨X2, x2, rfl, hR2, hb⟩; (try have hR1 := hR1.below hb))
            | ((with_reducible refine (same_c X1 s2 x1 X2 x2 τ.s _ hR1 hR2).mono ?_); rintro e w5 ⟨rfl, hb⟩)
            | ((with_reducible refine (ours_c P2 p2 f2 τ.p _ (HR2p.out.below ‹_›) (by have := HQ.out; omega)).mono ?_); rintro e w5 ⟨Y1, y1, rfl, hR3, hb⟩; (try have hR4 := hR4.below hb))
            | ((with_reducible refine (ours_c P1 p2 f1 τ.p _ (HR1p.out.below ‹_›) (by have := HQ.out; omega)).mono ?_); rintro e w5 ⟨Y2, y2, rfl, hR4, hb⟩; (try have hR3 := hR3.below hb))
            | ((with_reducible refine (same_c Y1 p2 y1 Y2 y2 τ.p _ hR3 hR4).mono ?_); rintro e w5 ⟨rfl, hb⟩)
            | ((with_reducible refine (alive_c _ (HTb.out.after ‹_›)).mono ?_); rintro e w5 ⟨rfl, hb⟩))
        all_goals
          go_wp2
          go_ret
          exact ⟨rfl, (HS10.out.after ‹_›).below⟩
      · have HR := Lib.hid hR
        clear hR
        go_wp2_with (first
          | (have hq := HS0; clear hq; (with_reducible refine atBox ?_); refine wpList_alloc_b rfl (some 2) rfl 28 ((scA now up A n c B m d)) (by kernel_rfl) ?_; intro g1 W1 hb hB hg; have HS1 := Lib.hid (HS0.out.new hb hB hg); clear hb hB hg HS0; obtain ⟨r0a, r0b, r0c⟩ := HS1.out.rules 0 rfl)
          | (have hq := HS1; clear hq; (with_reducible refine atLoad ?_); refine wpList_load_at rfl 28 _ rfl (HS1.out.at_ 0 rfl) 7 (scV now up A n c B m d) rfl _ Tryd.underlying28 rfl (by kernel_rfl) (Nat.le_of_ble_eq_true rfl) rfl ?_))
        refine (theirs_c now up A n c rs B m d ws _ (HA.out.below HS1.out.below) (HB.out.below HS1.out.below) (by omega) (by omega)).mono ?_
        rintro e W2 ⟨A1, c1, B1, d1, rfl, hA1, hB1, hb⟩
        have HS2 := Lib.hid (HS1.out.after hb)
        clear hb HS1 r0a r0b r0c
        have HA1 := Lib.hid hA1
        have HB1 := Lib.hid hB1
        clear hA1 hB1
        go_wp2_with fail
        refine (pass_no now up A1 n c1 rs B1 m d1 ws 2 _ HA1.out HB1.out HI.out (fun h => HR.out h.1)).mono ?_
        rintro e W3 ⟨rfl, hb⟩
        have HS3 := Lib.hid (HS2.out.after hb)
        clear hb HS2
        go_wp2_with fail
        refine (alive_c _ (HTab.out.after HS3.out.below)).mono ?_
        rintro e W4 ⟨rfl, hb⟩
        have HS4 := Lib.hid (HS3.out.after hb)
        clear hb HS3
        go_wp2_with fail
        go_ret
        exact ⟨rfl, HS4.out.below⟩
end Go.Proofs.YtkgphbjneaagoaaDoor
