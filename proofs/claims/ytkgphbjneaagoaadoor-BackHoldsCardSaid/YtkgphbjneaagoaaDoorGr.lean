/- Back: BackHolds. -/
import Derived.Test.YtkgphbjneaagoaaDoorGp
import Derived.Test.YtkgphbjneaagoaaDoorGq
set_option linter.unusedVariables false
set_option maxRecDepth 100000
namespace Go.Proofs.YtkgphbjneaagoaaDoor
open Go.RowKit Go.Sort

theorem WishOk.sub {ws l : List Wi} (h : WishOk ws) (hl : l.Sublist ws) : WishOk l := ⟨fun w hw => h.ok w (hl.subset hw), h.ids.sublist hl⟩
theorem RdS.drop {α : Type} {k : Nat} {c : α → List Value} {w : World} {bd : Addr} {n : Nat} {l : List α} (h : RdS k c w (some bd) n l) {i : Nat} (hi : i < n) : RdS k c w (some (bd.add (i * k))) (n - i) (l.drop i) := by
  refine ⟨by rw [List.length_drop, h.1], by have := h.2.1; omega, fun _ => ⟨_, rfl, fun j x hx u v hv => ?_⟩⟩
  obtain ⟨ad, e, hc⟩ := h.2.2 (by omega)
  cases e
  rw [List.getElem?_drop] at hx
  have := hc (i + j) x hx u v hv
  rwa [Nat.add_mul, ← Addr.add_add] at this
/-- after, in numbers, of a pass. -/
theorem after_m (now : Int) (up : NS) (A : Option Addr) (n c : Nat) (rs : List Ru) (B : Option Addr) (m d : Nat) (ws : List Wi) (S : Option Addr) (s e : Nat) (P : Option Addr) (p f : Nat) (l1 l2 : List Kp) (w : World) (hA : RdR w A n rs) (hB : RdW w B m ws) (hS : RdPl w S s (l1.map Kp.x)) (hP : RdPl w P p (l2.map Kp.x))
    (h1 : ∀ k ∈ l1, Fst ws k.w ∧ k.x.id = k.w.id ∧ 1 ≤ k.w.long ∧ k.w.long ≤ 1048576) (h2 : ∀ k ∈ l2, Fst ws k.w ∧ k.x.id = k.w.id) (hn : n ≤ 1000) (hm : m ≤ 1000) (hs : s ≤ 1000) (hp : p ≤ 1000) (h3 : 0 ≤ now) (h4 : now ≤ 1099511627776) (r2 : List Ru) (w2 : List Wi) (hr2 : r2 = rs ++ l1.map (ranK now)) (hw2 : w2 = l2.map Kp.w) :
    Calls Tryd.prog 24 #[scV now up A n c B m d, .slice S s e, .slice P p f] w fun e w' => ∃ A' N c' B' d', e = .returned (scV now up A' N c' B' p d') ∧ (r2.length = N ∧ w2.length = p ∧ p ≤ d' ∧ d' ≤ 9223372036854775807) ∧ Ms w noB [rowS 77 5 ruL A' c' r2, rowS 68 7 wiL B' d' w2] w' := by
  subst hr2
  subst hw2
  refine (after_c now up A n c rs B m d ws S s e P p f l1 l2 w hA hB hS hP h1 h2 hn hm hs hp h3 h4).mono ?_
  rintro e w' ⟨A', c', B', d', he, hM⟩
  have h5 : (l2.map Kp.w).length = p := by have := hP.1; simpa using this
  have h6 := rowS_cap (hM.ok 1 _ rfl)
  exact ⟨A', _, c', B', d', by rw [he, h5], ⟨rfl, h5, by omega, h6.2⟩, hM⟩
theorem Ms.rdR {w W : World} {ex : Nat → Prop} {L : List Own} (h : Ms w ex L W) (i : Nat) {A : Option Addr} {c n : Nat} {l : List Ru} (hi : L[i]? = some (rowS 77 5 ruL A c l)) (hn : l.length = n) : RdR W A n l := hn ▸ rowS_read (fun _ => rfl) (h.ok i _ hi)
theorem Ms.rdW {w W : World} {ex : Nat → Prop} {L : List Own} (h : Ms w ex L W) (i : Nat) {A : Option Addr} {c n : Nat} {l : List Wi} (hi : L[i]? = some (rowS 68 7 wiL A c l)) (hn : l.length = n) : RdW W A n l := hn ▸ rowS_read (fun _ => rfl) (h.ok i _ hi)
/-- What a pass leaves: what was started and what was planned, by what each one asked. -/
structure LeftP (now : Int) (up : NS) (rs : List Ru) (ws : List Wi) (σ : PS) (l1 l2 : List Kp) : Prop where
  s : σ.s = l1.map Kp.x
  p : σ.p = l2.map Kp.x
  k1 : ∀ k ∈ l1, Fst ws k.w ∧ k.x.id = k.w.id ∧ 1 ≤ k.w.long ∧ k.w.long ≤ 1048576
  k2 : ∀ k ∈ l2, Fst ws k.w ∧ k.x.id = k.w.id
  right : now ≤ 1099511627776 - 1048576 → ∀ i, RightP now up (rs ++ l1.map (ranK now)) ((l2.map Kp.w).drop i)
  ids : ∀ y ∈ l2.map Kp.w, y ∈ ws
  plan : now ≤ 1099511627776 - 1048576 → ∀ k ∈ l2, ∃ x, planO up (busyL now up (rs ++ l1.map (ranK now))) now k.w = some x ∧ x.id = k.x.id ∧ x.at_ ≤ k.x.at_
theorem left_of (mode : Int) {now : Int} {up : NS} {rs : List Ru} {ws : List Wi} (hR : RightP now up rs ws) (hn : rs.length ≤ 60) (hm : ws.length ≤ 60) : ∃ l1 l2, LeftP now up rs ws (passP mode up now rs ws) l1 l2 := by
  obtain ⟨ks, h⟩ := pass_inv (mode := mode) hR.n0 hR.n1 hR.runs hR.wish (by omega)
  have hks : ks.length ≤ ws.length := by simpa using h.sub.length_le
  have hmem : ∀ k ∈ ks, k.w ∈ ws := fun k hk => h.sub.subset (List.mem_map.2 ⟨k, hk, rfl⟩)
  have hkw : ∀ k ∈ ks, WiOk k.w := fun k hk => hR.wish.ok k.w (hmem k hk)
  have hf : ∀ (p : Kp → Bool), ∀ k ∈ ks.filter p, k ∈ ks := fun p k hk => (List.mem_filter.1 hk).1
  refine ⟨ks.filter fun k => decide (k.x.at_ = now), ks.filter fun k => !decide (k.x.at_ = now), h.s, h.p, fun k hk => ?_, fun k hk => ?_, fun hn2 i => ?_, fun y hy => ?_, fun hn2 k hk => ?_⟩
  · have hk := hf _ k hk
    exact ⟨fst_of hR.wish (hmem k hk), (h.ok k hk).id, (hkw k hk).l0, (hkw k hk).l1⟩
  · have hk := hf _ k hk
    exact ⟨fst_of hR.wish (hmem k hk), (h.ok k hk).id⟩
  · have hsub : ((ks.filter fun k => !decide (k.x.at_ = now)).map Kp.w).Sublist ws := ((List.filter_sublist).map _).trans h.sub
    refine ⟨hR.n0, hR.n1, ?_, ?_, ran_ok h hR.runs hkw hR.n0 hn2, (hR.wish.sub hsub).sub (List.drop_sublist _ _)⟩
    · rw [List.length_append, List.length_map]
      have := List.length_filter_le (fun k : Kp => decide (k.x.at_ = now)) ks
      omega
    · have := hsub.length_le
      rw [List.length_drop]
      omega
  · obtain ⟨k, hk, rfl⟩ := List.mem_map.1 hy
    exact hmem k (hf _ k hk)
  · obtain ⟨hk1, hk2⟩ := List.mem_filter.1 hk
    exact holds_plan h hR.runs hkw hR.n0 hn2 (by omega) hk1 (by simpa using hk2)
set_option maxHeartbeats 64000000 in
theorem backHolds_w (now : Int) (up : NS) (A : Option Addr) (n c : Nat) (rs : List Ru) (B : Option Addr) (m d : Nat) (ws : List Wi) (full : Bool) (w : World) (hA : RdR w A n rs) (hB : RdW w B m ws) (hb : ∀ x ∈ ws, -9223372036854775808 ≤ x.id ∧ x.id ≤ 9223372036854775807) (hmd : m ≤ d ∧ d ≤ 9223372036854775807) (hT : TabW w) :
    Calls Tryd.prog 8 #[scV now up A n c B m d, .bool full] w fun e w' => e = .returned (.bool true) ∧ Below w.heap.size w w' := by
  have HA := Lib.hid hA
  have HB := Lib.hid hB
  have HI := Lib.hid hb
  have HTab := Lib.hid hT
  have HMD := Lib.hid hmd
  have HLw := Lib.hid (show ws.length = m from hB.1)
  have HLr := Lib.hid (show rs.length = n from hA.1)
  have hnI : (n : Int) ≤ 9223372036854775807 := by have := hA.2.1; omega
  have hmI : (m : Int) ≤ 9223372036854775807 := by have := hB.2.1; omega
  clear hA hB hb hT hmd
  go_enter Tryd.func8, Tryd.ntmps8
  have HS0 := Lib.hid (Ms.nil w noB)
  by_cases h60 : 60 < m
  · have h60I : (60 : Int) < (m : Int) := by omega
    go_wp2_with (have hq := HS0; clear hq; (with_reducible refine atBox ?_); refine wpList_alloc_b rfl (some 2) rfl 28 ((scA now up A n c B m d)) (by kernel_rfl) ?_; intro g1 W1 hb hB hg; have HS1 := Lib.hid (HS0.out.new hb hB hg); clear hb hB hg HS0; obtain ⟨r0a, r0b, r0c⟩ := HS1.out.rules 0 rfl)
    refine (alive_c _ (HTab.out.after HS1.out.below)).mono ?_
    rintro e W2 ⟨rfl, hb⟩
    have HS2 := Lib.hid (HS1.out.after hb)
    clear hb HS1 r0a r0b r0c
    go_wp2_with fail
    go_ret
    exact ⟨rfl, HS2.out.below⟩
  · have h60I : (m : Int) ≤ 60 := by omega
    by_cases h61 : 60 < n
    · have h61I : (60 : Int) < (n : Int) := by omega
      go_wp2_with (have hq := HS0; clear hq; (with_reducible refine atBox ?_); refine wpList_alloc_b rfl (some 2) rfl 28 ((scA now up A n c B m d)) (by kernel_rfl) ?_; intro g1 W1 hb hB hg; have HS1 := Lib.hid (HS0.out.new hb hB hg); clear hb hB hg HS0; obtain ⟨r0a, r0b, r0c⟩ := HS1.out.rules 0 rfl)
      refine (alive_c _ (HTab.out.after HS1.out.below)).mono ?_
      rintro e W2 ⟨rfl, hb⟩
      have HS2 := Lib.hid (HS1.out.after hb)
      clear hb HS1 r0a r0b r0c
      go_wp2_with fail
      go_ret
      exact ⟨rfl, HS2.out.below⟩
    · have h61I : (n : Int) ≤ 60 := by omega
      by_cases h62 : 1099510579200 < now
      · go_wp2_with (have hq := HS0; clear hq; (with_reducible refine atBox ?_); refine wpList_alloc_b rfl (some 2) rfl 28 ((scA now up A n c B m d)) (by kernel_rfl) ?_; intro g1 W1 hb hB hg; have HS1 := Lib.hid (HS0.out.new hb hB hg); clear hb hB hg HS0; obtain ⟨r0a, r0b, r0c⟩ := HS1.out.rules 0 rfl)
        refine (alive_c _ (HTab.out.after HS1.out.below)).mono ?_
        rintro e W2 ⟨rfl, hb⟩
        have HS2 := Lib.hid (HS1.out.after hb)
        clear hb HS1 r0a r0b r0c
        go_wp2_with fail
        go_ret
        exact ⟨rfl, HS2.out.below⟩
      · have h62I : now ≤ 1099510579200 := by omega
        cases full with
        | true =>
          by_cases hR : RightP now up rs ws
          · have HR := Lib.hid hR
            clear hR
            obtain ⟨l1, l2, hL⟩ := left_of 2 HR.out (by rw [HLr.out]; omega) (by rw [HLw.out]; omega)
            obtain ⟨σ, hσ⟩ : ∃ σ, σ = passP 2 up now rs ws := ⟨_, rfl⟩
            have HSG := Lib.hid hσ
            rw [← hσ] at hL
            have HL := Lib.hid hL
            have HNO := Lib.hid (show now ≤ 1099511627776 - 1048576 by omega)
            clear hσ hL
            obtain ⟨r2, hr2⟩ : ∃ r2, r2 = rs ++ l1.map (ranK now) := ⟨_, rfl⟩
            obtain ⟨w2, hw2⟩ : ∃ w2, w2 = l2.map Kp.w := ⟨_, rfl⟩
            have HR2 := Lib.hid hr2
            have HW2 := Lib.hid hw2
            clear hr2 hw2
            go_wp2_with (first
              | (have hq := HS0; clear hq; (with_reducible refine atBox ?_); refine wpList_alloc_b rfl (some 2) rfl 28 ((scA now up A n c B m d)) (by kernel_rfl) ?_; intro g1 W1 hb hB hg; have HS1 := Lib.hid (HS0.out.new hb hB hg); clear hb hB hg HS0; obtain ⟨r0a, r0b, r0c⟩ := HS1.out.rules 0 rfl)
              | (have hq := HS1; clear hq; (with_reducible refine atLoad ?_); refine wpList_load_at rfl 28 _ rfl (HS1.out.at_ 0 rfl) 7 (scV now up A n c B m d) rfl _ Tryd.underlying28 rfl (by kernel_rfl) (Nat.le_of_ble_eq_true rfl) rfl ?_))
            refine (theirs_c now up A n c rs B m d ws _ (HA.out.below HS1.out.below) (HB.out.below HS1.out.below) (by omega) (by omega)).mono ?_
            rintro e W2 ⟨A1, c1, B1, d1, rfl, hA1, hB1, hb⟩
            have HS2 := Lib.hid (HS1.out.after hb)
            clear hb HS1 r0a r0b r0c
            have HA1 := Lib.hid hA1
            have HB1 := Lib.hid hB1
            clear hA1 hB1
            go_wp2_with fail
            refine (pass_y now up A1 n c1 rs B1 m d1 ws 2 σ _ HA1.out HB1.out HI.out HR.out (by omega) (by omega) (HTab.out.after HS2.out.below) HSG.out).mono ?_
            rintro e W3 ⟨S1, s1, e1, P1, p1, f1, rfl, hN, hM⟩
            have HS3 := Lib.hid (HS2.out.made hM)
            clear hM HS2
            have HN1 := Lib.hid hN
            clear hN
            go_wp2_with (have hq := HS3; clear hq; (with_reducible refine atLoad ?_); refine wpList_load_at rfl 28 _ rfl (HS3.out.at_ 0 rfl) 7 (scV now up A n c B m d) rfl _ Tryd.underlying28 rfl (by kernel_rfl) (Nat.le_of_ble_eq_true rfl) rfl ?_)
            refine (after_m now up A n c rs B m d ws S1 s1 e1 P1 p1 f1 l1 l2 _ (HA.out.below HS3.out.below) (HB.out.below HS3.out.below) (HL.out.s ▸ HS3.out.ansS 1 rfl HN1.out.1) (HL.out.p ▸ HS3.out.ansP 1 rfl HN1.out.2.1) HL.out.k1 HL.out.k2 (by omega) (by omega) (by have := HN1.out; omega) (by have := HN1.out; omega) HR.out.n0 HR.out.n1 r2 w2 HR2.out HW2.out).mono ?_
            rintro e W4 ⟨A3, N, c3, B3, d3, rfl, hM3, hM⟩
            have HS4 := Lib.hid (HS3.out.madeL hM)
            clear hM HS3
            have HM3 := Lib.hid hM3
            clear hM3
            have p1I : (p1 : Int) ≤ 60 := by have := HN1.out; omega
            go_wp2_with (first
              | (have hq := HS4; clear hq; (with_reducible refine atAlloc ?_); refine wpList_alloc_b rfl (some 9) rfl 38 (#[.int .i64 0, .int .u64 0, .int .u64 0, .int .u64 0, .int .u64 0, .slice none 0 0, .slice none 0 0]) (by kernel_rfl) ?_; intro g5 W5 hb hB hg; have HS5 := Lib.hid (HS4.out.new hb hB hg); clear hb hB hg HS4)
              | (have hq := HS5; clear hq; (with_reducible refine atStore ?_); refine wpList_store_at rfl 38 _ _ rfl (HS5.out.at_ 4 rfl) (scV now up A3 N c3 B3 p1 d3) rfl rfl (by kernel_rfl) (Nat.le_of_ble_eq_true rfl) (by kernel_rfl) ?_; intro W6 hB hP; have HS6 := Lib.hid (HS5.out.put 4 rfl (new := (scA now up A3 N c3 B3 p1 d3)) hB hP); clear hB hP HS5))
            go_loopw [50] (fun k wr => ∃ kk : Nat, kk ≤ p1 ∧ k = .int .i64 (kk : Nat) ∧ Hid (Ms w noB [(.blk g1 28 (scA now up A n c B m d)), .all [rowPl S1 e1 σ.s, rowPl P1 f1 σ.p], rowS 77 5 ruL A3 c3 r2, rowS 68 7 wiL B3 d3 w2, (.blk g5 38 (scA now up A3 N c3 B3 p1 d3))] wr)) (fun k _ => p1 - (intOf k).toNat)
            case atStart => exact ⟨0, by omega, rfl, HS6⟩
            case round =>
              obtain ⟨k, hkm, rfl, HS7⟩ := hrel
              by_cases hlt : k < p1
              · have hltI : (k : Int) < (p1 : Int) := by omega
                obtain ⟨ad, x, hAe, hx, hc⟩ := (HS7.out.ansP 1 rfl HN1.out.2.1).at_ hlt
                obtain ⟨bd, x9, hBe, _, _⟩ := (HS7.out.rdW 3 rfl HM3.out.2.1).at_ hlt
                subst hAe
                subst hBe
                rw [HL.out.p] at hx
                obtain ⟨u, hu, rfl⟩ : ∃ u, l2[k]? = some u ∧ u.x = x := by rw [List.getElem?_map] at hx; exact Option.map_eq_some_iff.1 hx
                obtain ⟨y, hy1, hy2, hy3⟩ := HL.out.plan HNO.out u (List.mem_of_getElem? hu)
                rw [← HR2.out] at hy1
                have HC := Lib.hid hc
                have HY := Lib.hid hy1
                have hid1 : (y.id != u.x.id) = false := by rw [hy2]; simp
                have HX := Lib.hid (show (w2.drop k)[0]? = some u.w by rw [List.getElem?_drop, Nat.add_zero, HW2.out, List.getElem?_map, hu]; rfl)
                have HRk := Lib.hid (HL.out.right HNO.out k)
                rw [← HR2.out, ← HW2.out] at HRk
                have HIk := Lib.hid (fun (x : Wi) (hx : x ∈ w2.drop k) => HI.out x (HL.out.ids x (HW2.out ▸ List.mem_of_mem_drop hx)))
                have hdk : ¬ d3 = k := by have := HM3.out; omega
                have hk0 : (0 : Int) ≤ (k : Int) := by omega
                have hkp : (k : Int) ≤ (p1 : Int) := by omega
                clear hc hx hu hy1 hy2
                go_wp2_with (first
                  | (have hq := HC; clear hq; refine wpList_load_ad (by kernel_rfl) 47 _ rfl (ad.add (k * 6)) ((plL u.x)) HC.out rfl _ (plV u.x) rfl Tryd.underlying47 rfl (by kernel_rfl) ?_; clear HC)
                  | (have hq := HS7; clear hq; (with_reducible refine atAlloc ?_); refine wpList_alloc_b rfl (some 11) rfl 47 (#[.int .i64 0, .int .i64 0, .int .u64 0, .int .u64 0, .int .u64 0, .int .u64 0]) (by kernel_rfl) ?_; intro g8 W8 hb hB hg; have HS8 := Lib.hid (HS7.out.new hb hB hg); clear hb hB hg HS7)
                  | (have hq := HS8; clear hq; (with_reducible refine atStore ?_); refine wpList_store_at rfl 47 _ _ rfl (HS8.out.at_ 5 rfl) (plV u.x) rfl rfl (by kernel_rfl) (Nat.le_of_ble_eq_true rfl) (by kernel_rfl) ?_; intro W9 hB hP; have HS9 := Lib.hid (HS8.out.put 5 rfl (new := (plA u.x)) hB hP); clear hB hP HS8)
                  | (have hq := HS9; clear hq; (with_reducible refine atLoad ?_); refine wpList_load_at rfl 38 _ rfl (HS9.out.at_ 4 rfl) 7 (scV now up A3 N c3 (some bd) p1 d3) rfl _ Tryd.underlying38 rfl (by kernel_rfl) (Nat.le_of_ble_eq_true rfl) rfl ?_)
                  | (have hq := HS9; clear hq; (with_reducible refine atAlloc ?_); refine wpList_alloc_b rfl (some 12) rfl 38 (#[.int .i64 0, .int .u64 0, .int .u64 0, .int .u64 0, .int .u64 0, .slice none 0 0, .slice none 0 0]) (by kernel_rfl) ?_; intro g10 W10 hb hB hg; have HS10 := Lib.hid (HS9.out.new hb hB hg); clear hb hB hg HS9)
                  | (have hq := HS10; clear hq; (with_reducible refine atStore ?_); refine wpList_store_at rfl 38 _ _ rfl (HS10.out.at_ 6 rfl) (scV now up A3 N c3 (some bd) p1 d3) rfl rfl (by kernel_rfl) (Nat.le_of_ble_eq_true rfl) (by kernel_rfl) ?_; intro W11 hB hP; have HS11 := Lib.hid (HS10.out.put 6 rfl (new := (scA now up A3 N c3 (some bd) p1 d3)) hB hP); clear hB hP HS10; obtain ⟨r4a, r4b, r4c⟩ := HS11.out.rules 4 rfl)
                  | (have hq := HS11; clear hq; (with_reducible refine atStore ?_); refine wpList_store_at rfl 36 _ _ rfl (HS11.out.at_ 6 rfl) (.slice (some (bd.add (k * 7))) (p1 - k) (d3 - k)) rfl rfl (by kernel_rfl) (Nat.le_of_ble_eq_true rfl) (by kernel_rfl) ?_; intro W12 hB hP; have HS12 := Lib.hid (HS11.out.put 6 rfl (new := #[.int .i64 now, .int .u64 (wn up 0 : Nat), .int .u64 (wn up 1 : Nat), .int .u64 (wn up 2 : Nat), .int .u64 (wn up 3 : Nat), .slice A3 N c3, .slice (some (bd.add (k * 7))) (p1 - k) (d3 - k)]) hB hP); clear hB hP HS11; clear r4a r4b r4c)
                  | (have hq := HS12; clear hq; (with_reducible refine atLoad ?_); refine wpList_load_at rfl 38 _ rfl (HS12.out.at_ 6 rfl) 7 (.agg #[.int .i64 now, .int .u64 (wn up 0 : Nat), .int .u64 (wn up 1 : Nat), .int .u64 (wn up 2 : Nat), .int .u64 (wn up 3 : Nat), .slice A3 N c3, .slice (some (bd.add (k * 7))) (p1 - k) (d3 - k)]) rfl _ Tryd.underlying38 rfl (by kernel_rfl) (Nat.le_of_ble_eq_true rfl) rfl ?_))
                refine (head_cons now up A3 N c3 r2 (some (bd.add (k * 7))) (p1 - k) (d3 - k) (w2.drop k) _ (HS12.out.rdR 2 rfl HM3.out.1) ((HS12.out.rdW 3 rfl HM3.out.2.1).drop hlt) HIk.out HRk.out u.w HX.out y true (by rw [HY.out]; rfl) (by rw [HY.out]; rfl) (HTab.out.after HS12.out.below)).mono ?_
                rintro e W13 ⟨rfl, hb⟩
                have HS13 := Lib.hid (HS12.out.after hb)
                clear hb HS12
                go_wp2_with (first
                  | (have hq := HS13; clear hq; (with_reducible refine atAlloc ?_); refine wpList_alloc_b rfl (some 13) rfl 47 (#[.int .i64 0, .int .i64 0, .int .u64 0, .int .u64 0, .int .u64 0, .int .u64 0]) (by kernel_rfl) ?_; intro g14 W14 hb hB hg; have HS14 := Lib.hid (HS13.out.new hb hB hg); clear hb hB hg HS13)
                  | (have hq := HS14; clear hq; (with_reducible refine atStore ?_); refine wpList_store_at rfl 47 _ _ rfl (HS14.out.at_ 7 rfl) (plV y) rfl rfl (by kernel_rfl) (Nat.le_of_ble_eq_true rfl) (by kernel_rfl) ?_; intro W15 hB hP; have HS15 := Lib.hid (HS14.out.put 7 rfl (new := (plA y)) hB hP); clear hB hP HS14; obtain ⟨r7a, r7b, r7c⟩ := HS15.out.rules 7 rfl; obtain ⟨r5a, r5b, r5c⟩ := HS15.out.rules 5 rfl))
                refine ⟨⟨k + 1, by omega, by go_num, ?_⟩, by simp [intOf]; omega⟩
                exact Lib.hid (Ms.cut (l := [(.blk g1 28 (scA now up A n c B m d)), .all [rowPl S1 e1 σ.s, rowPl (some ad) f1 σ.p], rowS 77 5 ruL A3 c3 r2, rowS 68 7 wiL (some bd) d3 w2, (.blk g5 38 (scA now up A3 N c3 (some bd) p1 d3))]) (k := [(.blk g8 47 (plA u.x)), (.blk g10 38 #[.int .i64 now, .int .u64 (wn up 0 : Nat), .int .u64 (wn up 1 : Nat), .int .u64 (wn up 2 : Nat), .int .u64 (wn up 3 : Nat), .slice A3 N c3, .slice (some (bd.add (k * 7))) (p1 - k) (d3 - k)]), (.blk g14 47 (plA y))]) HS15.out)
              · obtain rfl : k = p1 := by omega
                go_wp2_with fail
                refine (alive_c _ (HTab.out.after HS7.out.below)).mono ?_
                rintro e W8 ⟨rfl, hb⟩
                have HS8 := Lib.hid (HS7.out.after hb)
                clear hb HS7
                go_wp2_with fail
                go_ret
                exact ⟨rfl, HS8.out.below⟩
          · have HR := Lib.hid hR
            clear hR
            go_wp2_with (first
              | (have hq := HS0; clear hq; (with_reducible refine atBox ?_); refine wpList_alloc_b rfl (some 2) rfl 28 ((scA now up A n c B m d)) (by kernel_rfl) ?_; intro g1 W1 hb hB hg; have HS1 := Lib.hid (HS0.out.new hb hB hg); clear hb hB hg HS0; obtain ⟨r0a, r0b, r0c⟩ := HS1.out.rules 0 rfl)
              | (have hq := HS1; clear hq; (with_reducible refine atLoad ?_); refine wpList_load_at rfl 28 _ rfl (HS1.out.at_ 0 rfl) 7 (scV now up A n c B m d) rfl _ Tryd.underlying28 rfl (by kernel_rfl) (Nat.le_of_ble_eq_true rfl) rfl ?_))
            refine (theirs_c now up A n c rs B m d ws _ (HA.out.below HS1.out.below) (HB.out.below HS1.out.below) (by omega) (by omega)).mono ?_
            rintro e W2 ⟨A1, c1, B1, d1, rfl, hA1, hB1, hb⟩
            have HS2 := Lib.hid (HS1.out.after hb)
            clear hb HS1 r0a r0b r0c
            have HA1 := Lib.hid hA1
            have HB1 := Lib.hid hB1
            clear hA1 hB1
            go_wp2_with fail
            refine (pass_no now up A1 n c1 rs B1 m d1 ws 2 _ HA1.out HB1.out HI.out (fun h => HR.out h.1)).mono ?_
            rintro e W3 ⟨rfl, hb⟩
            have HS3 := Lib.hid (HS2.out.after hb)
            clear hb HS2
            go_wp2_with fail
            refine (alive_c _ (HTab.out.after HS3.out.below)).mono ?_
            rintro e W4 ⟨rfl, hb⟩
            have HS4 := Lib.hid (HS3.out.after hb)
            clear hb HS3
            go_wp2_with fail
            go_ret
            exact ⟨rfl, HS4.out.below⟩
        | false =>
          by_cases hR : RightP now up rs ws
          · have HR := Lib.hid hR
            clear hR
            obtain ⟨l1, l2, hL⟩ := left_of 1 HR.out (by rw [HLr.out]; omega) (by rw [HLw.out]; omega)
            obtain ⟨σ, hσ⟩ : ∃ σ, σ = passP 1 up now rs ws := ⟨_, rfl⟩
            have HSG := Lib.hid hσ
            rw [← hσ] at hL
            have HL := Lib.hid hL
            have HNO := Lib.hid (show now ≤ 1099511627776 - 1048576 by omega)
            clear hσ hL
            obtain ⟨r2, hr2⟩ : ∃ r2, r2 = rs ++ l1.map (ranK now) := ⟨_, rfl⟩
            obtain ⟨w2, hw2⟩ : ∃ w2, w2 = l2.map Kp.w := ⟨_, rfl⟩
            have HR2 := Lib.hid hr2
            have HW2 := Lib.hid hw2
            clear hr2 hw2
            go_wp2_with (first
              | (have hq := HS0; clear hq; (with_reducible refine atBox ?_); refine wpList_alloc_b rfl (some 2) rfl 28 ((scA now up A n c B m d)) (by kernel_rfl) ?_; intro g1 W1 hb hB hg; have HS1 := Lib.hid (HS0.out.new hb hB hg); clear hb hB hg HS0; obtain ⟨r0a, r0b, r0c⟩ := HS1.out.rules 0 rfl)
              | (have hq := HS1; clear hq; (with_reducible refine atLoad ?_); refine wpList_load_at rfl 28 _ rfl (HS1.out.at_ 0 rfl) 7 (scV now up A n c B m d) rfl _ Tryd.underlying28 rfl (by kernel_rfl) (Nat.le_of_ble_eq_true rfl) rfl ?_))
            refine (theirs_c now up A n c rs B m d ws _ (HA.out.below HS1.out.below) (HB.out.below HS1.out.below) (by omega) (by omega)).mono ?_
            rintro e W2 ⟨A1, c1, B1, d1, rfl, hA1, hB1, hb⟩
            have HS2 := Lib.hid (HS1.out.after hb)
            clear hb HS1 r0a r0b r0c
            have HA1 := Lib.hid hA1
            have HB1 := Lib.hid hB1
            clear hA1 hB1
            go_wp2_with fail
            refine (pass_y now up A1 n c1 rs B1 m d1 ws 1 σ _ HA1.out HB1.out HI.out HR.out (by omega) (by omega) (HTab.out.after HS2.out.below) HSG.out).mono ?_
            rintro e W3 ⟨S1, s1, e1, P1, p1, f1, rfl, hN, hM⟩
            have HS3 := Lib.hid (HS2.out.made hM)
            clear hM HS2
            have HN1 := Lib.hid hN
            clear hN
            go_wp2_with (have hq := HS3; clear hq; (with_reducible refine atLoad ?_); refine wpList_load_at rfl 28 _ rfl (HS3.out.at_ 0 rfl) 7 (scV now up A n c B m d) rfl _ Tryd.underlying28 rfl (by kernel_rfl) (Nat.le_of_ble_eq_true rfl) rfl ?_)
            refine (after_m now up A n c rs B m d ws S1 s1 e1 P1 p1 f1 l1 l2 _ (HA.out.below HS3.out.below) (HB.out.below HS3.out.below) (HL.out.s ▸ HS3.out.ansS 1 rfl HN1.out.1) (HL.out.p ▸ HS3.out.ansP 1 rfl HN1.out.2.1) HL.out.k1 HL.out.k2 (by omega) (by omega) (by have := HN1.out; omega) (by have := HN1.out; omega) HR.out.n0 HR.out.n1 r2 w2 HR2.out HW2.out).mono ?_
            rintro e W4 ⟨A3, N, c3, B3, d3, rfl, hM3, hM⟩
            have HS4 := Lib.hid (HS3.out.madeL hM)
            clear hM HS3
            have HM3 := Lib.hid hM3
            clear hM3
            have p1I : (p1 : Int) ≤ 60 := by have := HN1.out; omega
            go_wp2_with (first
              | (have hq := HS4; clear hq; (with_reducible refine atAlloc ?_); refine wpList_alloc_b rfl (some 9) rfl 38 (#[.int .i64 0, .int .u64 0, .int .u64 0, .int .u64 0, .int .u64 0, .slice none 0 0, .slice none 0 0]) (by kernel_rfl) ?_; intro g5 W5 hb hB hg; have HS5 := Lib.hid (HS4.out.new hb hB hg); clear hb hB hg HS4)
              | (have hq := HS5; clear hq; (with_reducible refine atStore ?_); refine wpList_store_at rfl 38 _ _ rfl (HS5.out.at_ 4 rfl) (scV now up A3 N c3 B3 p1 d3) rfl rfl (by kernel_rfl) (Nat.le_of_ble_eq_true rfl) (by kernel_rfl) ?_; intro W6 hB hP; have HS6 := Lib.hid (HS5.out.put 4 rfl (new := (scA now up A3 N c3 B3 p1 d3)) hB hP); clear hB hP HS5))
            go_loopw [50] (fun k wr => ∃ kk : Nat, kk ≤ p1 ∧ k = .int .i64 (kk : Nat) ∧ Hid (Ms w noB [(.blk g1 28 (scA now up A n c B m d)), .all [rowPl S1 e1 σ.s, rowPl P1 f1 σ.p], rowS 77 5 ruL A3 c3 r2, rowS 68 7 wiL B3 d3 w2, (.blk g5 38 (scA now up A3 N c3 B3 p1 d3))] wr)) (fun k _ => p1 - (intOf k).toNat)
            case atStart => exact ⟨0, by omega, rfl, HS6⟩
            case round =>
              obtain ⟨k, hkm, rfl, HS7⟩ := hrel
              by_cases hlt : k < p1
              · have hltI : (k : Int) < (p1 : Int) := by omega
                obtain ⟨ad, x, hAe, hx, hc⟩ := (HS7.out.ansP 1 rfl HN1.out.2.1).at_ hlt
                obtain ⟨bd, x9, hBe, _, _⟩ := (HS7.out.rdW 3 rfl HM3.out.2.1).at_ hlt
                subst hAe
                subst hBe
                rw [HL.out.p] at hx
                obtain ⟨u, hu, rfl⟩ : ∃ u, l2[k]? = some u ∧ u.x = x := by rw [List.getElem?_map] at hx; exact Option.map_eq_some_iff.1 hx
                obtain ⟨y, hy1, hy2, hy3⟩ := HL.out.plan HNO.out u (List.mem_of_getElem? hu)
                rw [← HR2.out] at hy1
                have HC := Lib.hid hc
                have HY := Lib.hid hy1
                have hid1 : (y.id != u.x.id) = false := by rw [hy2]; simp
                have HX := Lib.hid (show (w2.drop k)[0]? = some u.w by rw [List.getElem?_drop, Nat.add_zero, HW2.out, List.getElem?_map, hu]; rfl)
                have HRk := Lib.hid (HL.out.right HNO.out k)
                rw [← HR2.out, ← HW2.out] at HRk
                have HIk := Lib.hid (fun (x : Wi) (hx : x ∈ w2.drop k) => HI.out x (HL.out.ids x (HW2.out ▸ List.mem_of_mem_drop hx)))
                have hdk : ¬ d3 = k := by have := HM3.out; omega
                have hk0 : (0 : Int) ≤ (k : Int) := by omega
                have hkp : (k : Int) ≤ (p1 : Int) := by omega
                clear hc hx hu hy1 hy2
                go_wp2_with (first
                  | (have hq := HC; clear hq; refine wpList_load_ad (by kernel_rfl) 47 _ rfl (ad.add (k * 6)) ((plL u.x)) HC.out rfl _ (plV u.x) rfl Tryd.underlying47 rfl (by kernel_rfl) ?_; clear HC)
                  | (have hq := HS7; clear hq; (with_reducible refine atAlloc ?_); refine wpList_alloc_b rfl (some 11) rfl 47 (#[.int .i64 0, .int .i64 0, .int .u64 0, .int .u64 0, .int .u64 0, .int .u64 0]) (by kernel_rfl) ?_; intro g8 W8 hb hB hg; have HS8 := Lib.hid (HS7.out.new hb hB hg); clear hb hB hg HS7)
                  | (have hq := HS8; clear hq; (with_reducible refine atStore ?_); refine wpList_store_at rfl 47 _ _ rfl (HS8.out.at_ 5 rfl) (plV u.x) rfl rfl (by kernel_rfl) (Nat.le_of_ble_eq_true rfl) (by kernel_rfl) ?_; intro W9 hB hP; have HS9 := Lib.hid (HS8.out.put 5 rfl (new := (plA u.x)) hB hP); clear hB hP HS8)
                  | (have hq := HS9; clear hq; (with_reducible refine atLoad ?_); refine wpList_load_at rfl 38 _ rfl (HS9.out.at_ 4 rfl) 7 (scV now up A3 N c3 (some bd) p1 d3) rfl _ Tryd.underlying38 rfl (by kernel_rfl) (Nat.le_of_ble_eq_true rfl) rfl ?_)
                  | (have hq := HS9; clear hq; (with_reducible refine atAlloc ?_); refine wpList_alloc_b rfl (some 12) rfl 38 (#[.int .i64 0, .int .u64 0, .int .u64 0, .int .u64 0, .int .u64 0, .slice none 0 0, .slice none 0 0]) (by kernel_rfl) ?_; intro g10 W10 hb hB hg; have HS10 := Lib.hid (HS9.out.new hb hB hg); clear hb hB hg HS9)
                  | (have hq := HS10; clear hq; (with_reducible refine atStore ?_); refine wpList_store_at rfl 38 _ _ rfl (HS10.out.at_ 6 rfl) (scV now up A3 N c3 (some bd) p1 d3) rfl rfl (by kernel_rfl) (Nat.le_of_ble_eq_true rfl) (by kernel_rfl) ?_; intro W11 hB hP; have HS11 := Lib.hid (HS10.out.put 6 rfl (new := (scA now up A3 N c3 (some bd) p1 d3)) hB hP); clear hB hP HS10; obtain ⟨r4a, r4b, r4c⟩ := HS11.out.rules 4 rfl)
                  | (have hq := HS11; clear hq; (with_reducible refine atStore ?_); refine wpList_store_at rfl 36 _ _ rfl (HS11.out.at_ 6 rfl) (.slice (some (bd.add (k * 7))) (p1 - k) (d3 - k)) rfl rfl (by kernel_rfl) (Nat.le_of_ble_eq_true rfl) (by kernel_rfl) ?_; intro W12 hB hP; have HS12 := Lib.hid (HS11.out.put 6 rfl (new := #[.int .i64 now, .int .u64 (wn up 0 : Nat), .int .u64 (wn up 1 : Nat), .int .u64 (wn up 2 : Nat), .int .u64 (wn up 3 : Nat), .slice A3 N c3, .slice (some (bd.add (k * 7))) (p1 - k) (d3 - k)]) hB hP); clear hB hP HS11; clear r4a r4b r4c)
                  | (have hq := HS12; clear hq; (with_reducible refine atLoad ?_); refine wpList_load_at rfl 38 _ rfl (HS12.out.at_ 6 rfl) 7 (.agg #[.int .i64 now, .int .u64 (wn up 0 : Nat), .int .u64 (wn up 1 : Nat), .int .u64 (wn up 2 : Nat), .int .u64 (wn up 3 : Nat), .slice A3 N c3, .slice (some (bd.add (k * 7))) (p1 - k) (d3 - k)]) rfl _ Tryd.underlying38 rfl (by kernel_rfl) (Nat.le_of_ble_eq_true rfl) rfl ?_))
                refine (head_cons now up A3 N c3 r2 (some (bd.add (k * 7))) (p1 - k) (d3 - k) (w2.drop k) _ (HS12.out.rdR 2 rfl HM3.out.1) ((HS12.out.rdW 3 rfl HM3.out.2.1).drop hlt) HIk.out HRk.out u.w HX.out y true (by rw [HY.out]; rfl) (by rw [HY.out]; rfl) (HTab.out.after HS12.out.below)).mono ?_
                rintro e W13 ⟨rfl, hb⟩
                have HS13 := Lib.hid (HS12.out.after hb)
                clear hb HS12
                go_wp2_with (first
                  | (have hq := HS13; clear hq; (with_reducible refine atAlloc ?_); refine wpList_alloc_b rfl (some 13) rfl 47 (#[.int .i64 0, .int .i64 0, .int .u64 0, .int .u64 0, .int .u64 0, .int .u64 0]) (by kernel_rfl) ?_; intro g14 W14 hb hB hg; have HS14 := Lib.hid (HS13.out.new hb hB hg); clear hb hB hg HS13)
                  | (have hq := HS14; clear hq; (with_reducible refine atStore ?_); refine wpList_store_at rfl 47 _ _ rfl (HS14.out.at_ 7 rfl) (plV y) rfl rfl (by kernel_rfl) (Nat.le_of_ble_eq_true rfl) (by kernel_rfl) ?_; intro W15 hB hP; have HS15 := Lib.hid (HS14.out.put 7 rfl (new := (plA y)) hB hP); clear hB hP HS14; obtain ⟨r7a, r7b, r7c⟩ := HS15.out.rules 7 rfl; obtain ⟨r5a, r5b, r5c⟩ := HS15.out.rules 5 rfl))
                refine ⟨⟨k + 1, by omega, by go_num, ?_⟩, by simp [intOf]; omega⟩
                exact Lib.hid (Ms.cut (l := [(.blk g1 28 (scA now up A n c B m d)), .all [rowPl S1 e1 σ.s, rowPl (some ad) f1 σ.p], rowS 77 5 ruL A3 c3 r2, rowS 68 7 wiL (some bd) d3 w2, (.blk g5 38 (scA now up A3 N c3 (some bd) p1 d3))]) (k := [(.blk g8 47 (plA u.x)), (.blk g10 38 #[.int .i64 now, .int .u64 (wn up 0 : Nat), .int .u64 (wn up 1 : Nat), .int .u64 (wn up 2 : Nat), .int .u64 (wn up 3 : Nat), .slice A3 N c3, .slice (some (bd.add (k * 7))) (p1 - k) (d3 - k)]), (.blk g14 47 (plA y))]) HS15.out)
              · obtain rfl : k = p1 := by omega
                go_wp2_with fail
                refine (alive_c _ (HTab.out.after HS7.out.below)).mono ?_
                rintro e W8 ⟨rfl, hb⟩
                have HS8 := Lib.hid (HS7.out.after hb)
                clear hb HS7
                go_wp2_with fail
                go_ret
                exact ⟨rfl, HS8.out.below⟩
          · have HR := Lib.hid hR
            clear hR
            go_wp2_with (first
              | (have hq := HS0; clear hq; (with_reducible refine atBox ?_); refine wpList_alloc_b rfl (some 2) rfl 28 ((scA now up A n c B m d)) (by kernel_rfl) ?_; intro g1 W1 hb hB hg; have HS1 := Lib.hid (HS0.out.new hb hB hg); clear hb hB hg HS0; obtain ⟨r0a, r0b, r0c⟩ := HS1.out.rules 0 rfl)
              | (have hq := HS1; clear hq; (with_reducible refine atLoad ?_); refine wpList_load_at rfl 28 _ rfl (HS1.out.at_ 0 rfl) 7 (scV now up A n c B m d) rfl _ Tryd.underlying28 rfl (by kernel_rfl) (Nat.le_of_ble_eq_true rfl) rfl ?_))
            refine (theirs_c now up A n c rs B m d ws _ (HA.out.below HS1.out.below) (HB.out.below HS1.out.below) (by omega) (by omega)).mono ?_
            rintro e W2 ⟨A1, c1, B1, d1, rfl, hA1, hB1, hb⟩
            have HS2 := Lib.hid (HS1.out.after hb)
            clear hb HS1 r0a r0b r0c
            have HA1 := Lib.hid hA1
            have HB1 := Lib.hid hB1
            clear hA1 hB1
            go_wp2_with fail
            refine (pass_no now up A1 n c1 rs B1 m d1 ws 1 _ HA1.out HB1.out HI.out (fun h => HR.out h.1)).mono ?_
            rintro e W3 ⟨rfl, hb⟩
            have HS3 := Lib.hid (HS2.out.after hb)
            clear hb HS2
            go_wp2_with fail
            refine (alive_c _ (HTab.out.after HS3.out.below)).mono ?_
            rintro e W4 ⟨rfl, hb⟩
            have HS4 := Lib.hid (HS3.out.after hb)
            clear hb HS3
            go_wp2_with fail
            go_ret
            exact ⟨rfl, HS4.out.below⟩
end Go.Proofs.YtkgphbjneaagoaaDoor
