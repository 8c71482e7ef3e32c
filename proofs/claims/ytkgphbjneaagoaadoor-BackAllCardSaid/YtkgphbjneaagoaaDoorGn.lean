/- Back: BackAll. -/
import Derived.Test.YtkgphbjneaagoaaDoorGl
set_option linter.unusedVariables false
set_option maxRecDepth 100000
namespace Go.Proofs.YtkgphbjneaagoaaDoor
open Go.RowKit Go.Sort

set_option maxHeartbeats 32000000 in
theorem backAll_w (now : Int) (up : NS) (A : Option Addr) (n c : Nat) (rs : List Ru) (B : Option Addr) (m d : Nat) (ws : List Wi) (w : World) (hA : RdR w A n rs) (hB : RdW w B m ws) (hb : ∀ x ∈ ws, -9223372036854775808 ≤ x.id ∧ x.id ≤ 9223372036854775807) (hmd : m ≤ d ∧ d ≤ 9223372036854775807) (hT : TabW w) :
    Calls Tryd.prog 6 #[scV now up A n c B m d] w fun e w' => e = .returned (.bool true) ∧ Below w.heap.size w w' := by
  have HA := Lib.hid hA
  have HB := Lib.hid hB
  have HI := Lib.hid hb
  have HTab := Lib.hid hT
  have HMD := Lib.hid hmd
  have HLw := Lib.hid (show ws.length = m from hB.1)
  have HLr := Lib.hid (show rs.length = n from hA.1)
  have hnI : (n : Int) ≤ 9223372036854775807 := by have := hA.2.1; omega
  have hmI : (m : Int) ≤ 9223372036854775807 := by have := hB.2.1; omega
  clear hA hB hb hT hmd
  go_enter Tryd.func6, Tryd.ntmps6
  have HS0 := Lib.hid (Ms.nil w noB)
  by_cases h60 : 60 < m
  · have h60I : (60 : Int) < (m : Int) := by omega
    go_wp2_with (have hq := HS0; clear hq; (with_reducible refine atBox ?_); refine wpList_alloc_b rfl (some 1) rfl 28 ((scA now up A n c B m d)) (by kernel_rfl) ?_; intro g1 W1 hb hB hg; have HS1 := Lib.hid (HS0.out.new hb hB hg); clear hb hB hg HS0; obtain ⟨r0a, r0b, r0c⟩ := HS1.out.rules 0 rfl)
    refine (alive_c _ (HTab.out.after HS1.out.below)).mono ?_
    rintro e W2 ⟨rfl, hb⟩
    have HS2 := Lib.hid (HS1.out.after hb)
    clear hb HS1 r0a r0b r0c
    go_wp2_with fail
    go_ret
    exact ⟨rfl, HS2.out.below⟩
  · have h60I : (m : Int) ≤ 60 := by omega
    by_cases h61 : 60 < n
    · have h61I : (60 : Int) < (n : Int) := by omega
      go_wp2_with (have hq := HS0; clear hq; (with_reducible refine atBox ?_); refine wpList_alloc_b rfl (some 1) rfl 28 ((scA now up A n c B m d)) (by kernel_rfl) ?_; intro g1 W1 hb hB hg; have HS1 := Lib.hid (HS0.out.new hb hB hg); clear hb hB hg HS0; obtain ⟨r0a, r0b, r0c⟩ := HS1.out.rules 0 rfl)
      refine (alive_c _ (HTab.out.after HS1.out.below)).mono ?_
      rintro e W2 ⟨rfl, hb⟩
      have HS2 := Lib.hid (HS1.out.after hb)
      clear hb HS1 r0a r0b r0c
      go_wp2_with fail
      go_ret
      exact ⟨rfl, HS2.out.below⟩
    · have h61I : (n : Int) ≤ 60 := by omega
      by_cases hR : RightP now up rs ws
      · have HR := Lib.hid hR
        clear hR
        have HP2 := Lib.hid (pass_all 2 (.inr rfl) up now rs ws)
        have HP1 := Lib.hid (pass_all 1 (.inl rfl) up now rs ws)
        have HE0 := Lib.hid (show (passP 0 up now rs ws).p = [] from none_p up now ws _ rfl)
        have HE1 := Lib.hid (show (passP 1 up now rs ws).p.length ≤ 1 from easy_p up now ws _ (by simp [startP]))
        obtain ⟨ρ, h0⟩ : ∃ ρ, ρ = passP 0 up now rs ws := ⟨_, rfl⟩
        have HG0 := Lib.hid h0
        obtain ⟨σ, h2⟩ : ∃ σ, σ = passP 2 up now rs ws := ⟨_, rfl⟩
        have HG2 := Lib.hid h2
        obtain ⟨τ, h1⟩ : ∃ τ, τ = passP 1 up now rs ws := ⟨_, rfl⟩
        have HG1 := Lib.hid h1
        rw [← h0, ← h2] at HP2
        rw [← h0, ← h1] at HP1
        rw [← h0] at HE0
        rw [← h1] at HE1
        clear h0 h1 h2
        go_wp2_with (first
          | (have hq := HS0; clear hq; (with_reducible refine atBox ?_); refine wpList_alloc_b rfl (some 1) rfl 28 ((scA now up A n c B m d)) (by kernel_rfl) ?_; intro g1 W1 hb hB hg; have HS1 := Lib.hid (HS0.out.new hb hB hg); clear hb hB hg HS0; obtain ⟨r0a, r0b, r0c⟩ := HS1.out.rules 0 rfl)
          | (have hq := HS1; clear hq; (with_reducible refine atLoad ?_); refine wpList_load_at rfl 28 _ rfl (HS1.out.at_ 0 rfl) 7 (scV now up A n c B m d) rfl _ Tryd.underlying28 rfl (by kernel_rfl) (Nat.le_of_ble_eq_true rfl) rfl ?_))
        refine (theirs_c now up A n c rs B m d ws _ (HA.out.below HS1.out.below) (HB.out.below HS1.out.below) (by omega) (by omega)).mono ?_
        rintro e W2 ⟨A1, c1, B1, d1, rfl, hA1, hB1, hb⟩
        have HS2 := Lib.hid (HS1.out.after hb)
        clear hb HS1 r0a r0b r0c
        have HA1 := Lib.hid hA1
        have HB1 := Lib.hid hB1
        clear hA1 hB1
        go_wp2_with fail
        refine (pass_y now up A1 n c1 rs B1 m d1 ws 0 ρ _ HA1.out HB1.out HI.out HR.out (by omega) (by omega) (HTab.out.after HS2.out.below) HG0.out).mono ?_
        rintro e W3 ⟨S1, s1, e1, P1, p1, f1, rfl, hN, hM⟩
        have HS3 := Lib.hid (HS2.out.made hM)
        clear hM HS2
        have HN1 := Lib.hid hN
        clear hN
        obtain rfl : p1 = 0 := by have := HN1.out.2.1; rw [HE0.out] at this; exact this.symm
        go_wp2_with (have hq := HS3; clear hq; (with_reducible refine atLoad ?_); refine wpList_load_at rfl 28 _ rfl (HS3.out.at_ 0 rfl) 7 (scV now up A n c B m d) rfl _ Tryd.underlying28 rfl (by kernel_rfl) (Nat.le_of_ble_eq_true rfl) rfl ?_)
        refine (theirs_c now up A n c rs B m d ws _ (HA.out.below HS3.out.below) (HB.out.below HS3.out.below) (by omega) (by omega)).mono ?_
        rintro e W4 ⟨A2, c2, B2, d2, rfl, hA1, hB1, hb⟩
        have HS4 := Lib.hid (HS3.out.after hb)
        clear hb HS3
        have HA2 := Lib.hid hA1
        have HB2 := Lib.hid hB1
        clear hA1 hB1
        go_wp2_with fail
        refine (pass_y now up A2 n c2 rs B2 m d2 ws 2 σ _ HA2.out HB2.out HI.out HR.out (by omega) (by omega) (HTab.out.after HS4.out.below) HG2.out).mono ?_
        rintro e W5 ⟨S2, s2, e2, P2, p2, f2, rfl, hN, hM⟩
        have HS5 := Lib.hid (HS4.out.made hM)
        clear hM HS4
        have HN2 := Lib.hid hN
        clear hN
        have g1I : (s1 : Int) ≤ (s2 : Int) := by have := HN1.out.1; have := HN2.out.1; have := HP2.out.2; omega
        go_wp2_with (have hq := HS5; clear hq; (with_reducible refine atLoad ?_); refine wpList_load_at rfl 28 _ rfl (HS5.out.at_ 0 rfl) 7 (scV now up A n c B m d) rfl _ Tryd.underlying28 rfl (by kernel_rfl) (Nat.le_of_ble_eq_true rfl) rfl ?_)
        refine (theirs_c now up A n c rs B m d ws _ (HA.out.below HS5.out.below) (HB.out.below HS5.out.below) (by omega) (by omega)).mono ?_
        rintro e W6 ⟨A3, c3, B3, d3, rfl, hA1, hB1, hb⟩
        have HS6 := Lib.hid (HS5.out.after hb)
        clear hb HS5
        have HA3 := Lib.hid hA1
        have HB3 := Lib.hid hB1
        clear hA1 hB1
        go_wp2_with fail
        refine (pass_y now up A3 n c3 rs B3 m d3 ws 1 τ _ HA3.out HB3.out HI.out HR.out (by omega) (by omega) (HTab.out.after HS6.out.below) HG1.out).mono ?_
        rintro e W7 ⟨S3, s3, e3, P3, p3, f3, rfl, hN, hM⟩
        have HS7 := Lib.hid (HS6.out.made hM)
        clear hM HS6
        have HN3 := Lib.hid hN
        clear hN
        have g2I : (s1 : Int) ≤ (s3 : Int) := by have := HN1.out.1; have := HN3.out.1; have := HP1.out.2; omega
        have g3I : (p3 : Int) ≤ 1 := by have := HN3.out.2.1; have := HE1.out; omega
        go_wp2_with fail
        go_wp2_with fail
        have HRa := Lib.hid (HS7.out.ansS 1 rfl HN1.out.1)
        have HRb := Lib.hid ((HS7.out.ansS 2 rfl HN2.out.1).first (k := s1) (by omega) HP2.out.1 HN1.out.1)
        have HRc := Lib.hid ((HS7.out.ansS 3 rfl HN3.out.1).first (k := s1) (by omega) HP1.out.1 HN1.out.1)
        have q1I : (s1 : Int) ≤ (e2 : Int) := by have := HN2.out; omega
        have q2I : (s1 : Int) ≤ (e3 : Int) := by have := HN3.out; omega
        have HQ := Lib.hid (show s1 ≤ 60 by have := HN1.out; omega)
        have HTb := Lib.hid (HTab.out.after HS7.out.below)
        go_region_held3 (fun W2 => Below W7.heap.size W7 W2)
          (first | exact (Below.refl _ _).drew | exact below_then ‹_› (Below.size ‹_›) hb)
          (first
            | ((with_reducible refine (ours_c S1 s1 e1 ρ.s _ (HRa.out.below ‹_›) (by have := HQ.out; omega)).mono ?_); rintro e w5 ⟨X1, x1, rfl, hR1, hb⟩; (try have hR2 := hR2.below hb); (try have hR3 := hR3.below hb))
            | ((with_reducible refine (ours_c S2 s1 e2 ρ.s _ (HRb.out.below ‹_›) (by have := HQ.out; omega)).mono ?_); rintro e w5 ⟨X2, x2, rfl, hR2, hb⟩; (try have hR1 := hR1.below hb))
            | ((with_reducible refine (ours_c S3 s1 e3 ρ.s _ (HRc.out.below ‹_›) (by have := HQ.out; omega)).mono ?_); rintro e w5 ⟨X3, x3, rfl, hR3, hb⟩; (try have hR1 := hR1.below hb))
            | ((with_reducible refine (same_c X1 s1 x1 X2 x2 ρ.s _ hR1 hR2).mono ?_); rintro e w5 ⟨rfl, hb⟩)
            | ((with_reducible refine (same_c X1 s1 x1 X3 x3 ρ.s _ hR1 hR3).mono ?_); rintro e w5 ⟨rfl, hb⟩)
            | ((with_reducible refine (alive_c _ (HTb.out.after ‹_›)).mono ?_); rintro e w5 ⟨rfl, hb⟩))
        all_goals
          go_wp2
          go_ret
          exact ⟨rfl, (HS7.out.after ‹_›).below⟩
      · have HR := Lib.hid hR
        clear hR
        go_wp2_with (first
          | (have hq := HS0; clear hq; (with_reducible refine atBox ?_); refine wpList_alloc_b rfl (some 1) rfl 28 ((scA now up A n c B m d)) (by kernel_rfl) ?_; intro g1 W1 hb hB hg; have HS1 := Lib.hid (HS0.out.new hb hB hg); clear hb hB hg HS0; obtain ⟨r0a, r0b, r0c⟩ := HS1.out.rules 0 rfl)
          | (have hq := HS1; clear hq; (with_reducible refine atLoad ?_); refine wpList_load_at rfl 28 _ rfl (HS1.out.at_ 0 rfl) 7 (scV now up A n c B m d) rfl _ Tryd.underlying28 rfl (by kernel_rfl) (Nat.le_of_ble_eq_true rfl) rfl ?_))
        refine (theirs_c now up A n c rs B m d ws _ (HA.out.below HS1.out.below) (HB.out.below HS1.out.below) (by omega) (by omega)).mono ?_
        rintro e W2 ⟨A1, c1, B1, d1, rfl, hA1, hB1, hb⟩
        have HS2 := Lib.hid (HS1.out.after hb)
        clear hb HS1 r0a r0b r0c
        have HA1 := Lib.hid hA1
        have HB1 := Lib.hid hB1
        clear hA1 hB1
        go_wp2_with fail
        refine (pass_no now up A1 n c1 rs B1 m d1 ws 0 _ HA1.out HB1.out HI.out (fun h => HR.out h.1)).mono ?_
        rintro e W3 ⟨rfl, hb⟩
        have HS3 := Lib.hid (HS2.out.after hb)
        clear hb HS2
        go_wp2_with (have hq := HS3; clear hq; (with_reducible refine atLoad ?_); refine wpList_load_at rfl 28 _ rfl (HS3.out.at_ 0 rfl) 7 (scV now up A n c B m d) rfl _ Tryd.underlying28 rfl (by kernel_rfl) (Nat.le_of_ble_eq_true rfl) rfl ?_)
        refine (theirs_c now up A n c rs B m d ws _ (HA.out.below HS3.out.below) (HB.out.below HS3.out.below) (by omega) (by omega)).mono ?_
        rintro e W4 ⟨A2, c2, B2, d2, rfl, hA1, hB1, hb⟩
        have HS4 := Lib.hid (HS3.out.after hb)
        clear hb HS3
        have HA2 := Lib.hid hA1
        have HB2 := Lib.hid hB1
        clear hA1 hB1
        go_wp2_with fail
        refine (pass_no now up A2 n c2 rs B2 m d2 ws 2 _ HA2.out HB2.out HI.out (fun h => HR.out h.1)).mono ?_
        rintro e W5 ⟨rfl, hb⟩
        have HS5 := Lib.hid (HS4.out.after hb)
        clear hb HS4
        go_wp2_with (have hq := HS5; clear hq; (with_reducible refine atLoad ?_); refine wpList_load_at rfl 28 _ rfl (HS5.out.at_ 0 rfl) 7 (scV now up A n c B m d) rfl _ Tryd.underlying28 rfl (by kernel_rfl) (Nat.le_of_ble_eq_true rfl) rfl ?_)
        refine (theirs_c now up A n c rs B m d ws _ (HA.out.below HS5.out.below) (HB.out.below HS5.out.below) (by omega) (by omega)).mono ?_
        rintro e W6 ⟨A3, c3, B3, d3, rfl, hA1, hB1, hb⟩
        have HS6 := Lib.hid (HS5.out.after hb)
        clear hb HS5
        have HA3 := Lib.hid hA1
        have HB3 := Lib.hid hB1
        clear hA1 hB1
        go_wp2_with fail
        refine (pass_no now up A3 n c3 rs B3 m d3 ws 1 _ HA3.out HB3.out HI.out (fun h => HR.out h.1)).mono ?_
        rintro e W7 ⟨rfl, hb⟩
        have HS7 := Lib.hid (HS6.out.after hb)
        clear hb HS6
        go_wp2_with fail
        refine (alive_c _ (HTab.out.after HS7.out.below)).mono ?_
        rintro e W8 ⟨rfl, hb⟩
        have HS8 := Lib.hid (HS7.out.after hb)
        clear hb HS7
        go_wp2_with fail
        go_ret
        exact ⟨rfl, HS8.out.below⟩
end Go.Proofs.YtkgphbjneaagoaaDoor
