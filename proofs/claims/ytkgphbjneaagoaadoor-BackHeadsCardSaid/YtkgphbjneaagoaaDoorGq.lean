/- Back: after. -/
import Derived.Test.YtkgphbjneaagoaaDoorGu
set_option linter.unusedVariables false
set_option maxRecDepth 100000
namespace Go.Proofs.YtkgphbjneaagoaaDoor
open Go.RowKit Go.Sort

/-- A wish that is found by its number. -/
def Fst (ws : List Wi) (y : Wi) : Prop := ∃ k0 : Nat, ws[k0]? = some y ∧ ∀ j : Nat, j < k0 → ∀ x : Wi, ws[j]? = some x → x.id ≠ y.id
theorem fst_of {ws : List Wi} (hW : WishOk ws) {y : Wi} (hy : y ∈ ws) : Fst ws y := by
  obtain ⟨k0, hk0, he⟩ := List.getElem_of_mem hy
  refine ⟨k0, by rw [List.getElem?_eq_getElem hk0, he], fun j hj x hx => ?_⟩
  obtain ⟨h1, h2⟩ := List.getElem?_eq_some_iff.1 hx
  have := List.pairwise_iff_getElem.1 hW.ids j k0 h1 hk0 hj
  rw [h2, he] at this
  exact this
/-- What was started runs. -/
abbrev ranK (now : Int) (k : Kp) : Ru := ⟨k.x.nodes, now + k.w.long⟩
theorem wish_k (now : Int) (up : NS) (A : Option Addr) (n c : Nat) (B : Option Addr) (m d : Nat) (ws : List Wi) (y : Wi) (id : Int) (w : World) (hB : RdW w B m ws) (hF : Fst ws y) (he : id = y.id) :
    Calls Tryd.prog 16 #[scV now up A n c B m d, .int .i64 id] w fun e w' => e = .returned (.tuple #[wiV y, .bool true]) ∧ Below w.heap.size w w' := by
  subst he
  obtain ⟨k0, h1, h2⟩ := hF
  exact wish_c now up A n c B m d ws k0 y w hB h1 h2
theorem map_take {α β : Type} (f : α → β) {l : List α} {k : Nat} {x : α} (h : l[k]? = some x) : (l.take (k + 1)).map f = (l.take k).map f ++ [f x] := by rw [take_one h, List.map_append]; rfl
set_option maxHeartbeats 64000000 in
theorem after_c (now : Int) (up : NS) (A : Option Addr) (n c : Nat) (rs : List Ru) (B : Option Addr) (m d : Nat) (ws : List Wi) (S : Option Addr) (s e : Nat) (P : Option Addr) (p f : Nat) (l1 l2 : List Kp) (w : World) (hA : RdR w A n rs) (hB : RdW w B m ws) (hS : RdPl w S s (l1.map Kp.x)) (hP : RdPl w P p (l2.map Kp.x))
    (h1 : ∀ k ∈ l1, Fst ws k.w ∧ k.x.id = k.w.id ∧ 1 ≤ k.w.long ∧ k.w.long ≤ 1048576) (h2 : ∀ k ∈ l2, Fst ws k.w ∧ k.x.id = k.w.id) (hn : n ≤ 1000) (hm : m ≤ 1000) (hs : s ≤ 1000) (hp : p ≤ 1000) (h3 : 0 ≤ now) (h4 : now ≤ 1099511627776) :
    Calls Tryd.prog 24 #[scV now up A n c B m d, .slice S s e, .slice P p f] w fun e w' => ∃ A' c' B' d', e = .returned (scV now up A' (rs ++ l1.map (ranK now)).length c' B' (l2.map Kp.w).length d') ∧ Ms w noB [rowS 77 5 ruL A' c' (rs ++ l1.map (ranK now)), rowS 68 7 wiL B' d' (l2.map Kp.w)] w' := by
  have HA := Lib.hid hA
  have HB := Lib.hid hB
  have HS := Lib.hid hS
  have HP := Lib.hid hP
  have HLr := Lib.hid (show rs.length = n from hA.1)
  have HL1 := Lib.hid (show l1.length = s by have := hS.1; simpa using this)
  have HL2 := Lib.hid (show l2.length = p by have := hP.1; simpa using this)
  have HF1 := Lib.hid h1
  have HF2 := Lib.hid h2
  have HN := Lib.hid (And.intro hn (And.intro hm (And.intro hs hp)))
  have HNW := Lib.hid (And.intro h3 h4)
  have hsI : (s : Int) ≤ 1000 := by omega
  have hpI : (p : Int) ≤ 1000 := by omega
  obtain ⟨RF, hRF⟩ : ∃ RF, RF = rs ++ l1.map (ranK now) := ⟨_, rfl⟩
  obtain ⟨ZF, hZF⟩ : ∃ ZF, ZF = l2.map Kp.w := ⟨_, rfl⟩
  have HRF := Lib.hid hRF
  have HZF := Lib.hid hZF
  rw [← hRF, ← hZF]
  clear hA hB hS hP h1 h2 hn hm hs hp h3 h4 hRF hZF
  go_enter Tryd.func24, Tryd.ntmps24
  have HS0 := Lib.hid (Ms.nil w noB)
  go_wp2_with (first
    | (have hq := HS0; clear hq; (with_reducible refine atBox ?_); refine wpList_alloc_b rfl (some 3) rfl 28 ((scA now up A n c B m d)) (by kernel_rfl) ?_; intro g1 W1 hb hB hg; have HS1 := Lib.hid (HS0.out.new hb hB hg); clear hb hB hg HS0)
    | (have hq := HS1; clear hq; (with_reducible refine atAlloc ?_); refine wpList_alloc_b rfl (some 6) rfl 38 (#[.int .i64 0, .int .u64 0, .int .u64 0, .int .u64 0, .int .u64 0, .slice none 0 0, .slice none 0 0]) (by kernel_rfl) ?_; intro g2 W2 hb hB hg; have HS2 := Lib.hid (HS1.out.new hb hB hg); clear hb hB hg HS1)
    | (have hq := HS2; clear hq; (with_reducible refine atLoad ?_); refine wpList_load_at rfl 28 _ rfl (HS2.out.at_ 0 rfl) 7 (scV now up A n c B m d) rfl _ Tryd.underlying28 rfl (by kernel_rfl) (Nat.le_of_ble_eq_true rfl) rfl ?_))
  refine (theirs_m now up A n c rs B m d ws _ (HA.out.below HS2.out.below) (HB.out.below HS2.out.below) (by have := HN.out; omega) (by have := HN.out; omega)).mono ?_
  rintro e W3 ⟨A1, c1, B1, d1, rfl, _, _, _, hM⟩
  have HS3 := Lib.hid (HS2.out.madeL hM)
  clear hM HS2
  go_wp2_with (first
    | (have hq := HS3; clear hq; (with_reducible refine atAlloc ?_); refine wpList_alloc_b rfl (some 7) rfl 38 (#[.int .i64 0, .int .u64 0, .int .u64 0, .int .u64 0, .int .u64 0, .slice none 0 0, .slice none 0 0]) (by kernel_rfl) ?_; intro g4 W4 hb hB hg; have HS4 := Lib.hid (HS3.out.new hb hB hg); clear hb hB hg HS3)
    | (have hq := HS4; clear hq; (with_reducible refine atStore ?_); refine wpList_store_at rfl 38 _ _ rfl (HS4.out.at_ 4 rfl) (scV now up A1 n c1 B1 m d1) rfl rfl (by kernel_rfl) (Nat.le_of_ble_eq_true rfl) (by kernel_rfl) ?_; intro W5 hB hP; have HS5 := Lib.hid (HS4.out.put 4 rfl (new := (scA now up A1 n c1 B1 m d1)) hB hP); clear hB hP HS4)
    | (have hq := HS5; clear hq; (with_reducible refine atStore ?_); refine wpList_store_at rfl 36 _ _ rfl (HS5.out.at_ 4 rfl) (.slice none 0 0) rfl rfl (by kernel_rfl) (Nat.le_of_ble_eq_true rfl) (by kernel_rfl) ?_; intro W6 hB hP; have HS6 := Lib.hid (HS5.out.put 4 rfl (new := #[.int .i64 now, .int .u64 (wn up 0 : Nat), .int .u64 (wn up 1 : Nat), .int .u64 (wn up 2 : Nat), .int .u64 (wn up 3 : Nat), .slice A1 n c1, .slice none 0 0]) hB hP); clear hB hP HS5))
  have HS7 := Lib.hid (HS6.out.nilS 68 7 wiL)
  clear HS6
  go_loopw [21] (fun k wr => ∃ (kk : Nat) (A2 : Option Addr) (c2 : Nat), kk ≤ s ∧ k = .int .i64 (kk : Nat) ∧ Hid (Ms w noB [(.blk g1 28 (scA now up A n c B m d)), (.blk g2 38 #[.int .i64 0, .int .u64 0, .int .u64 0, .int .u64 0, .int .u64 0, .slice none 0 0, .slice none 0 0]), rowS 77 5 ruL A2 c2 (rs ++ (l1.take kk).map (ranK now)), rowS 68 7 wiL B1 d1 ws, .blk g4 38 #[.int .i64 now, .int .u64 (wn up 0 : Nat), .int .u64 (wn up 1 : Nat), .int .u64 (wn up 2 : Nat), .int .u64 (wn up 3 : Nat), .slice A2 (rs ++ (l1.take kk).map (ranK now)).length c2, .slice none 0 0], rowS 68 7 wiL none 0 []] wr)) (fun k _ => s - (intOf k).toNat)
  case atStart => exact ⟨0, _, _, by omega, rfl, by simpa [HLr.out] using HS7⟩
  case round =>
    obtain ⟨k, A2, c2, hkn, rfl, HS8⟩ := hrel
    by_cases hlt : k < s
    · have hltI : (k : Int) < (s : Int) := by omega
      obtain ⟨ad, x, hAe, hx, hc⟩ := (HS.out.below HS8.out.below).at_ hlt
      subst hAe
      obtain ⟨u, hu, rfl⟩ : ∃ u, l1[k]? = some u ∧ u.x = x := by rw [List.getElem?_map] at hx; exact Option.map_eq_some_iff.1 hx
      have HC := Lib.hid hc
      have HU := Lib.hid (HF1.out u (List.mem_of_getElem? hu))
      obtain ⟨R, hR⟩ : ∃ R, R = rs ++ (l1.take k).map (ranK now) := ⟨_, rfl⟩
      have HRX := Lib.hid (show rs ++ (l1.take (k + 1)).map (ranK now) = R ++ [ranK now u] by rw [hR, map_take _ hu, List.append_assoc])
      rw [← hR] at HS8
      have HRL := Lib.hid (show (R.length + 1) * 40 ≤ 140737488355328 by rw [hR, List.length_append, List.length_map, List.length_take]; have := HLr.out; have := HN.out; omega)
      have i1 := HNW.out.1
      have i2 := HNW.out.2
      have i3 := HU.out.2.2.1
      have i4 := HU.out.2.2.2
      clear hc hx hR hu
      go_wp2_with (first
        | (have hq := HC; clear hq; refine wpList_load_ad (by kernel_rfl) 47 _ rfl (ad.add (k * 6)) ((plL u.x)) HC.out rfl _ (plV u.x) rfl Tryd.underlying47 rfl (by kernel_rfl) ?_; clear HC)
        | (have hq := HS8; clear hq; (with_reducible refine atAlloc ?_); refine wpList_alloc_b rfl (some 9) rfl 47 (#[.int .i64 0, .int .i64 0, .int .u64 0, .int .u64 0, .int .u64 0, .int .u64 0]) (by kernel_rfl) ?_; intro g9 W9 hb hB hg; have HS9 := Lib.hid (HS8.out.new hb hB hg); clear hb hB hg HS8)
        | (have hq := HS9; clear hq; (with_reducible refine atStore ?_); refine wpList_store_at rfl 47 _ _ rfl (HS9.out.at_ 6 rfl) (plV u.x) rfl rfl (by kernel_rfl) (Nat.le_of_ble_eq_true rfl) (by kernel_rfl) ?_; intro W10 hB hP; have HS10 := Lib.hid (HS9.out.put 6 rfl (new := (plA u.x)) hB hP); clear hB hP HS9; obtain ⟨r6a, r6b, r6c⟩ := HS10.out.rules 6 rfl)
        | (have hq := HS10; clear hq; (with_reducible refine atLoad ?_); refine wpList_load_at rfl 28 _ rfl (HS10.out.at_ 0 rfl) 7 (scV now up A n c B m d) rfl _ Tryd.underlying28 rfl (by kernel_rfl) (Nat.le_of_ble_eq_true rfl) rfl ?_))
      refine (wish_k now up A n c B m d ws u.w u.x.id _ (HB.out.below HS10.out.below) HU.out.1 HU.out.2.1).mono ?_
      rintro e W11 ⟨rfl, hb⟩
      have HS11 := Lib.hid (HS10.out.after hb)
      clear hb HS10 r6a r6b r6c
      go_wp2_with (first
        | (have hq := HS11; clear hq; (with_reducible refine atAlloc ?_); refine wpList_alloc_b rfl (some 10) rfl 49 (#[.int .i64 0, .int .i64 0, .int .i64 0, .int .u64 0, .int .u64 0, .int .u64 0, .int .u64 0]) (by kernel_rfl) ?_; intro g12 W12 hb hB hg; have HS12 := Lib.hid (HS11.out.new hb hB hg); clear hb hB hg HS11)
        | (have hq := HS12; clear hq; (with_reducible refine atStore ?_); refine wpList_store_at rfl 49 _ _ rfl (HS12.out.at_ 7 rfl) (wiV u.w) rfl rfl (by kernel_rfl) (Nat.le_of_ble_eq_true rfl) (by kernel_rfl) ?_; intro W13 hB hP; have HS13 := Lib.hid (HS12.out.put 7 rfl (new := (wiA u.w)) hB hP); clear hB hP HS12; obtain ⟨r4a, r4b, r4c⟩ := HS13.out.rules 4 rfl; obtain ⟨r0a, r0b, r0c⟩ := HS13.out.rules 0 rfl; obtain ⟨r7a, r7b, r7c⟩ := HS13.out.rules 7 rfl)
        | (have hq := HS13; clear hq; (with_reducible refine atLoad ?_); refine wpList_load_at rfl 24 _ rfl (HS13.out.at_ 6 rfl) 4 (.agg #[.int .u64 (wn u.x.nodes 0 : Nat), .int .u64 (wn u.x.nodes 1 : Nat), .int .u64 (wn u.x.nodes 2 : Nat), .int .u64 (wn u.x.nodes 3 : Nat)]) rfl _ Tryd.underlying24 rfl (by kernel_rfl) (Nat.le_of_ble_eq_true rfl) rfl ?_)
        | (have hq := HS13; clear hq; (with_reducible refine atBuild ?_); refine wpList_build_b rfl (some 42) rfl 77 1 (#[.int .u64 (wn u.x.nodes 0 : Nat), .int .u64 (wn u.x.nodes 1 : Nat), .int .u64 (wn u.x.nodes 2 : Nat), .int .u64 (wn u.x.nodes 3 : Nat), .int .i64 (now + u.w.long)]) (by kernel_rfl) ?_; intro g14 W14 hb hB hg; have HS14 := Lib.hid (HS13.out.new hb hB hg); clear hb hB hg HS13; clear r4a r4b r4c r0a r0b r0c r7a r7b r7c)
        | (have hq := HS14; clear hq; refine append_one HS14.out 2 8 rfl _ _ 35 77 5 40 ruL (.agg #[.int .u64 0, .int .u64 0, .int .u64 0, .int .u64 0, .int .i64 0]) rfl Tryd.underlying35 (by kernel_rfl) rfl (by decide) A2 c2 R (ranK now u) g14 _ _ rfl rfl rfl rfl rfl rfl rfl (HRL.out) (by simp only [maxLen]; have := HRL.out; omega) ?_; intro A15 c15 W15 hM; have HS15 := Lib.hid hM; clear hM HS14)
        | (have hq := HS15; clear hq; (with_reducible refine atStore ?_); refine wpList_store_at rfl 35 _ _ rfl (HS15.out.at_ 4 rfl) (.slice A15 (R.length + 1) c15) rfl rfl (by kernel_rfl) (Nat.le_of_ble_eq_true rfl) (by kernel_rfl) ?_; intro W16 hB hP; have HS16 := Lib.hid (HS15.out.put 4 rfl (new := #[.int .i64 now, .int .u64 (wn up 0 : Nat), .int .u64 (wn up 1 : Nat), .int .u64 (wn up 2 : Nat), .int .u64 (wn up 3 : Nat), .slice A15 (R.length + 1) c15, .slice none 0 0]) hB hP); clear hB hP HS15))
      refine ⟨⟨k + 1, A15, c15, by omega, by go_num, ?_⟩, by simp [intOf]; omega⟩
      rw [HRX.out, show (R ++ [ranK now u]).length = R.length + 1 by simp]
      exact Lib.hid (Ms.cut (l := [(.blk g1 28 (scA now up A n c B m d)), (.blk g2 38 #[.int .i64 0, .int .u64 0, .int .u64 0, .int .u64 0, .int .u64 0, .slice none 0 0, .slice none 0 0]), rowS 77 5 ruL A15 c15 (R ++ [(ranK now u)]), rowS 68 7 wiL B1 d1 ws, (.blk g4 38 #[.int .i64 now, .int .u64 (wn up 0 : Nat), .int .u64 (wn up 1 : Nat), .int .u64 (wn up 2 : Nat), .int .u64 (wn up 3 : Nat), .slice A15 (R.length + 1) c15, .slice none 0 0]), rowS 68 7 wiL none 0 []]) (k := [(.blk g9 47 (plA u.x)), (.blk g12 49 (wiA u.w)), (.blk g14 77 #[.int .u64 (wn u.x.nodes 0 : Nat), .int .u64 (wn u.x.nodes 1 : Nat), .int .u64 (wn u.x.nodes 2 : Nat), .int .u64 (wn u.x.nodes 3 : Nat), .int .i64 (now + u.w.long)])]) HS16.out)
    · obtain rfl : k = s := by omega
      have HQ := HS8.out
      rw [List.take_of_length_le (by rw [HL1.out]; exact Nat.le_refl _)] at HQ
      rw [← HRF.out] at HQ
      have HS9 := Lib.hid HQ
      clear HQ HS8
      go_wp2_with fail
      go_loopw [48] (fun j wr => ∃ (kk : Nat) (B2 : Option Addr) (d2 : Nat), kk ≤ p ∧ j = .int .i64 (kk : Nat) ∧ Hid (Ms w noB [(.blk g1 28 (scA now up A n c B m d)), (.blk g2 38 #[.int .i64 0, .int .u64 0, .int .u64 0, .int .u64 0, .int .u64 0, .slice none 0 0, .slice none 0 0]), rowS 77 5 ruL A2 c2 RF, rowS 68 7 wiL B1 d1 ws, .blk g4 38 #[.int .i64 now, .int .u64 (wn up 0 : Nat), .int .u64 (wn up 1 : Nat), .int .u64 (wn up 2 : Nat), .int .u64 (wn up 3 : Nat), .slice A2 RF.length c2, .slice B2 ((l2.take kk).map Kp.w).length d2], rowS 68 7 wiL B2 d2 ((l2.take kk).map Kp.w)] wr)) (fun j _ => p - (intOf j).toNat)
      case atStart => exact ⟨0, _, _, by omega, rfl, HS9⟩
      case round =>
        obtain ⟨j, B2, d2, hjm, rfl, HS10⟩ := hrel
        by_cases hlt2 : j < p
        · have hltI : (j : Int) < (p : Int) := by omega
          obtain ⟨ad, x, hBe, hx, hc⟩ := (HP.out.below HS10.out.below).at_ hlt2
          subst hBe
          obtain ⟨u, hu, rfl⟩ : ∃ u, l2[j]? = some u ∧ u.x = x := by rw [List.getElem?_map] at hx; exact Option.map_eq_some_iff.1 hx
          have HC := Lib.hid hc
          have HU := Lib.hid (HF2.out u (List.mem_of_getElem? hu))
          obtain ⟨Z, hZ⟩ : ∃ Z, Z = (l2.take j).map Kp.w := ⟨_, rfl⟩
          have HRX := Lib.hid (show (l2.take (j + 1)).map Kp.w = Z ++ [u.w] by rw [hZ, map_take _ hu])
          rw [← hZ] at HS10
          have HRL := Lib.hid (show (Z.length + 1) * 56 ≤ 140737488355328 by rw [hZ, List.length_map, List.length_take]; have := HN.out; omega)
          clear hc hx hZ hu
          go_wp2_with (first
            | (have hq := HC; clear hq; refine wpList_load_ad (by kernel_rfl) 47 _ rfl (ad.add (j * 6)) ((plL u.x)) HC.out rfl _ (plV u.x) rfl Tryd.underlying47 rfl (by kernel_rfl) ?_; clear HC)
            | (have hq := HS10; clear hq; (with_reducible refine atAlloc ?_); refine wpList_alloc_b rfl (some 13) rfl 47 (#[.int .i64 0, .int .i64 0, .int .u64 0, .int .u64 0, .int .u64 0, .int .u64 0]) (by kernel_rfl) ?_; intro g11 W11 hb hB hg; have HS11 := Lib.hid (HS10.out.new hb hB hg); clear hb hB hg HS10)
            | (have hq := HS11; clear hq; (with_reducible refine atStore ?_); refine wpList_store_at rfl 47 _ _ rfl (HS11.out.at_ 6 rfl) (plV u.x) rfl rfl (by kernel_rfl) (Nat.le_of_ble_eq_true rfl) (by kernel_rfl) ?_; intro W12 hB hP; have HS12 := Lib.hid (HS11.out.put 6 rfl (new := (plA u.x)) hB hP); clear hB hP HS11; obtain ⟨r6a, r6b, r6c⟩ := HS12.out.rules 6 rfl)
            | (have hq := HS12; clear hq; (with_reducible refine atLoad ?_); refine wpList_load_at rfl 28 _ rfl (HS12.out.at_ 0 rfl) 7 (scV now up A n c B m d) rfl _ Tryd.underlying28 rfl (by kernel_rfl) (Nat.le_of_ble_eq_true rfl) rfl ?_))
          refine (wish_k now up A n c B m d ws u.w u.x.id _ (HB.out.below HS12.out.below) HU.out.1 HU.out.2).mono ?_
          rintro e W13 ⟨rfl, hb⟩
          have HS13 := Lib.hid (HS12.out.after hb)
          clear hb HS12 r6a r6b r6c
          go_wp2_with (first
            | (have hq := HS13; clear hq; (with_reducible refine atAlloc ?_); refine wpList_alloc_b rfl (some 14) rfl 49 (#[.int .i64 0, .int .i64 0, .int .i64 0, .int .u64 0, .int .u64 0, .int .u64 0, .int .u64 0]) (by kernel_rfl) ?_; intro g14 W14 hb hB hg; have HS14 := Lib.hid (HS13.out.new hb hB hg); clear hb hB hg HS13)
            | (have hq := HS14; clear hq; (with_reducible refine atStore ?_); refine wpList_store_at rfl 49 _ _ rfl (HS14.out.at_ 7 rfl) (wiV u.w) rfl rfl (by kernel_rfl) (Nat.le_of_ble_eq_true rfl) (by kernel_rfl) ?_; intro W15 hB hP; have HS15 := Lib.hid (HS14.out.put 7 rfl (new := (wiA u.w)) hB hP); clear hB hP HS14; obtain ⟨r4a, r4b, r4c⟩ := HS15.out.rules 4 rfl; obtain ⟨r7a, r7b, r7c⟩ := HS15.out.rules 7 rfl)
            | (have hq := HS15; clear hq; (with_reducible refine atLoad ?_); refine wpList_load_at rfl 24 _ rfl (HS15.out.at_ 7 rfl) 4 (.agg #[.int .u64 (wn u.w.of 0 : Nat), .int .u64 (wn u.w.of 1 : Nat), .int .u64 (wn u.w.of 2 : Nat), .int .u64 (wn u.w.of 3 : Nat)]) rfl _ Tryd.underlying24 rfl (by kernel_rfl) (Nat.le_of_ble_eq_true rfl) rfl ?_)
            | (have hq := HS15; clear hq; (with_reducible refine atBuild ?_); refine wpList_build_b rfl (some 70) rfl 68 1 (#[.int .i64 u.w.id, .int .i64 u.w.n, .int .i64 u.w.long, .int .u64 (wn u.w.of 0 : Nat), .int .u64 (wn u.w.of 1 : Nat), .int .u64 (wn u.w.of 2 : Nat), .int .u64 (wn u.w.of 3 : Nat)]) (by kernel_rfl) ?_; intro g16 W16 hb hB hg; have HS16 := Lib.hid (HS15.out.new hb hB hg); clear hb hB hg HS15; clear r4a r4b r4c r7a r7b r7c)
            | (have hq := HS16; clear hq; refine append_one HS16.out 5 8 rfl _ _ 36 68 7 56 wiL (.agg #[.int .i64 0, .int .i64 0, .int .i64 0, .int .u64 0, .int .u64 0, .int .u64 0, .int .u64 0]) rfl Tryd.underlying36 (by kernel_rfl) rfl (by decide) B2 d2 Z u.w g16 _ _ rfl rfl rfl rfl rfl rfl rfl (HRL.out) (by simp only [maxLen]; have := HRL.out; omega) ?_; intro A17 c17 W17 hM; have HS17 := Lib.hid hM; clear hM HS16)
            | (have hq := HS17; clear hq; (with_reducible refine atStore ?_); refine wpList_store_at rfl 36 _ _ rfl (HS17.out.at_ 4 rfl) (.slice A17 (Z.length + 1) c17) rfl rfl (by kernel_rfl) (Nat.le_of_ble_eq_true rfl) (by kernel_rfl) ?_; intro W18 hB hP; have HS18 := Lib.hid (HS17.out.put 4 rfl (new := #[.int .i64 now, .int .u64 (wn up 0 : Nat), .int .u64 (wn up 1 : Nat), .int .u64 (wn up 2 : Nat), .int .u64 (wn up 3 : Nat), .slice A2 RF.length c2, .slice A17 (Z.length + 1) c17]) hB hP); clear hB hP HS17))
          refine ⟨⟨j + 1, A17, c17, by omega, by go_num, ?_⟩, by simp [intOf]; omega⟩
          rw [HRX.out, show (Z ++ [u.w]).length = Z.length + 1 by simp]
          exact Lib.hid (Ms.cut (l := [(.blk g1 28 (scA now up A n c B m d)), (.blk g2 38 #[.int .i64 0, .int .u64 0, .int .u64 0, .int .u64 0, .int .u64 0, .slice none 0 0, .slice none 0 0]), rowS 77 5 ruL A2 c2 RF, rowS 68 7 wiL B1 d1 ws, (.blk g4 38 #[.int .i64 now, .int .u64 (wn up 0 : Nat), .int .u64 (wn up 1 : Nat), .int .u64 (wn up 2 : Nat), .int .u64 (wn up 3 : Nat), .slice A2 RF.length c2, .slice A17 (Z.length + 1) c17]), rowS 68 7 wiL A17 c17 (Z ++ [u.w])]) (k := [(.blk g11 47 (plA u.x)), (.blk g14 49 (wiA u.w)), (.blk g16 68 #[.int .i64 u.w.id, .int .i64 u.w.n, .int .i64 u.w.long, .int .u64 (wn u.w.of 0 : Nat), .int .u64 (wn u.w.of 1 : Nat), .int .u64 (wn u.w.of 2 : Nat), .int .u64 (wn u.w.of 3 : Nat)])]) HS18.out)
        · obtain rfl : j = p := by omega
          have HQ := HS10.out
          rw [List.take_of_length_le (by rw [HL2.out]; exact Nat.le_refl _)] at HQ
          rw [← HZF.out] at HQ
          have HS11 := Lib.hid HQ
          clear HQ HS10
          go_wp2_with (first
            | (have hq := HS11; clear hq; (with_reducible refine atLoad ?_); refine wpList_load_at rfl 38 _ rfl (HS11.out.at_ 4 rfl) 7 (.agg #[.int .i64 now, .int .u64 (wn up 0 : Nat), .int .u64 (wn up 1 : Nat), .int .u64 (wn up 2 : Nat), .int .u64 (wn up 3 : Nat), .slice A2 RF.length c2, .slice B2 ZF.length d2]) rfl _ Tryd.underlying38 rfl (by kernel_rfl) (Nat.le_of_ble_eq_true rfl) rfl ?_)
            | (have hq := HS11; clear hq; (with_reducible refine atStore ?_); refine wpList_store_at rfl 38 _ _ rfl (HS11.out.at_ 1 rfl) (.agg #[.int .i64 now, .int .u64 (wn up 0 : Nat), .int .u64 (wn up 1 : Nat), .int .u64 (wn up 2 : Nat), .int .u64 (wn up 3 : Nat), .slice A2 RF.length c2, .slice B2 ZF.length d2]) rfl rfl (by kernel_rfl) (Nat.le_of_ble_eq_true rfl) (by kernel_rfl) ?_; intro W12 hB hP; have HS12 := Lib.hid (HS11.out.put 1 rfl (new := #[.int .i64 now, .int .u64 (wn up 0 : Nat), .int .u64 (wn up 1 : Nat), .int .u64 (wn up 2 : Nat), .int .u64 (wn up 3 : Nat), .slice A2 RF.length c2, .slice B2 ZF.length d2]) hB hP); clear hB hP HS11))
          exact post_cell rfl rfl (HS12.out.at_ 1 rfl) Tryd.underlying38 rfl (by kernel_rfl) rfl ⟨A2, c2, B2, d2, rfl, HS12.out.two 2 5 rfl rfl (by decide)⟩
end Go.Proofs.YtkgphbjneaagoaaDoor
