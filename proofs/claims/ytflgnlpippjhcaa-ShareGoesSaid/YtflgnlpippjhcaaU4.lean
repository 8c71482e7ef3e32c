/- Share: New, Add. -/
import Derived.Test.YtflgnlpippjhcaaU3
set_option linter.unusedVariables false
set_option maxRecDepth 100000
namespace Go.Proofs.Ytflgnlpippjhcaa
open Go.RowKit Go.Sort Go.Maps

theorem str_empty (n : Nm) (w : World) : (binOp .eql 9 (str n) (.string { data := #[] })).run Try.prog w = .ok (.bool n.isEmpty) w := by
  cases n with
  | nil => kernel_rfl
  | cons x r =>
    simp [binOp, Op.stringOp]
theorem LOk.room {half : Int} {L : Led} (h : LOk half L) : L.length < maxLen := by have := h.len; simp only [maxLen]; omega
theorem str_size (n : Nm) : (⟨n.toArray⟩ : ByteArray).size = n.length := by simp [ByteArray.size]
/-- New: refused. -/
theorem new_n (half : Int) (w : World) (h : half < 1 ∨ 1000000 < half) : Calls Try.prog 10 #[.int .i64 half] w fun e w' => e = .returned (.tuple #[.pointer none, .int .i64 1]) ∧ Below w.heap.size w w' := by
  rcases h with h | h
  · go_enter Try.func10, Try.ntmps10
    go_wp2_with fail
    go_ret2
    exact ⟨rfl, Below.refl _ _⟩
  · have h0 : 1 ≤ half := by omega
    go_enter Try.func10, Try.ntmps10
    go_wp2_with fail
    go_ret2
    exact ⟨rfl, Below.refl _ _⟩
theorem new_y (half : Int) (w : World) (h0 : 1 ≤ half) (h1 : half ≤ 1000000) : Calls Try.prog 10 #[.int .i64 half] w fun e w' => ∃ g b, e = .returned (.tuple #[.pointer (some ⟨g, 0, none⟩), .int .i64 0]) ∧ Ms w noB [ldP g b half []] w' := by
  go_enter Try.func10, Try.ntmps10
  have HS0 := Lib.hid (Ms.nil w noB)
  go_wp2_with (first
    | (have hq := HS0; clear hq; refine wpList_makeMp HS0.out rfl (some 11) rfl (by kernel_rfl) ?_; intro bm W1 hM; have HS1 := Lib.hid hM; clear hM HS0)
    | (have hq := HS1; clear hq; (with_reducible refine atBox ?_); refine wpList_alloc_b rfl (some 13) rfl 56 (#[.int .i64 half, .map (some bm)]) (by kernel_rfl) ?_; intro g2 W2 hb hB hg; have HS2 := Lib.hid (HS1.out.new hb hB hg); clear hb hB hg HS1))
  go_ret2
  exact ⟨g2, bm, rfl, (HS2.out.selL [1, 0] (ldO g2 bm half []) rfl (by decide)).all⟩
set_option maxHeartbeats 8000000 in
theorem add_u (g b : Nat) (half : Int) (L : Led) (n : Nm) (amount now : Int) (w : World) (hO : (ldP g b half L).ok w) (hK : LOk half L) (hn : n.length ≤ maxLen) (hu : userE L n now = 1) : Calls Try.prog 14 #[.pointer (some ⟨g, 0, none⟩), str n, .int .i64 amount, .int .i64 now] w fun e w' => e = .returned (.int .i64 1) ∧ Ms w (ldP g b half L).bl [ldP g b half L] w' := by
  have HO := Lib.hid hO
  have HK := Lib.hid hK
  have HNL := Lib.hid hn
  have HU := Lib.hid hu
  clear hO hK hn hu
  go_enter Try.func14, Try.ntmps14
  have HS0 := Lib.hid (Ms.open_ HO.out)
  clear HO
  go_wp2_with fail
  refine (user_n g b half L n now _ (HS0.out.ldM 0 1 rfl rfl HK.out) HNL.out HU.out).mono ?_
  rintro e W1 ⟨rfl, hb⟩
  have HS1 := Lib.hid (HS0.out.after hb)
  clear hb HS0
  go_wp2_with (first
    | (have hq := HS1; clear hq; (with_reducible refine atAlloc ?_); refine wpList_alloc_b rfl (some 9) rfl 66 (#[.int .i64 0, .int .i64 0]) (by kernel_rfl) ?_; intro g2 W2 hb hB hg; have HS2 := Lib.hid (HS1.out.new hb hB hg); clear hb hB hg HS1)
    | (have hq := HS2; clear hq; (with_reducible refine atStore ?_); refine wpList_store_at rfl 66 _ _ rfl (HS2.out.at_ 2 rfl) (acV (⟨0, 0⟩ : Ac)) rfl rfl (by kernel_rfl) (Nat.le_of_ble_eq_true rfl) (by kernel_rfl) ?_; intro W3 hB hP; have HS3 := Lib.hid (HS2.out.put 2 rfl (new := (acA (⟨0, 0⟩ : Ac))) hB hP); clear hB hP HS2))
  go_ret
  exact ⟨rfl, (HS3.out.selL [0, 1] _ rfl (by decide)).all⟩
set_option maxHeartbeats 8000000 in
theorem add_m (g b : Nat) (half : Int) (L : Led) (n : Nm) (amount now : Int) (w : World) (hO : (ldP g b half L).ok w) (hK : LOk half L) (hn : n.length ≤ maxLen) (hu : userE L n now = 0) (hm : mayE n amount = 1) : Calls Try.prog 14 #[.pointer (some ⟨g, 0, none⟩), str n, .int .i64 amount, .int .i64 now] w fun e w' => e = .returned (.int .i64 1) ∧ Ms w (ldP g b half L).bl [ldP g b half L] w' := by
  have HO := Lib.hid hO
  have HK := Lib.hid hK
  have HNL := Lib.hid hn
  have HU := Lib.hid hu
  obtain ⟨c, hc⟩ : ∃ c, c = acc L n := ⟨_, rfl⟩
  obtain ⟨r, hr⟩ : ∃ r, r = (look L n).isSome := ⟨_, rfl⟩
  have HUY := Lib.hid (fun (w : World) (hR : LdR w g b half L) => user_y g b half L n now w hR hn hu)
  rw [← hc, ← hr] at HUY
  have HC := Lib.hid hc
  have HRr := Lib.hid hr
  have hse := str_empty n
  have hss := str_size n
  clear hO hK hn hu hc hr
  by_cases h1 : n = []
  · subst h1
    have he : ([] : Nm).isEmpty = true := rfl
    go_enter Try.func14, Try.ntmps14
    have HS0 := Lib.hid (Ms.open_ HO.out)
    clear HO
    go_wp2_with fail
    refine (HUY.out _ (HS0.out.ldM 0 1 rfl rfl HK.out)).mono ?_
    rintro e W1 ⟨rfl, hb⟩
    have HS1 := Lib.hid (HS0.out.after hb)
    clear hb HS0
    go_wp2_with (first
      | (have hq := HS1; clear hq; (with_reducible refine atAlloc ?_); refine wpList_alloc_b rfl (some 9) rfl 66 (#[.int .i64 0, .int .i64 0]) (by kernel_rfl) ?_; intro g2 W2 hb hB hg; have HS2 := Lib.hid (HS1.out.new hb hB hg); clear hb hB hg HS1)
      | (have hq := HS2; clear hq; (with_reducible refine atStore ?_); refine wpList_store_at rfl 66 _ _ rfl (HS2.out.at_ 2 rfl) (acV c) rfl rfl (by kernel_rfl) (Nat.le_of_ble_eq_true rfl) (by kernel_rfl) ?_; intro W3 hB hP; have HS3 := Lib.hid (HS2.out.put 2 rfl (new := (acA c)) hB hP); clear hB hP HS2))
    go_ret
    exact ⟨rfl, (HS3.out.selL [0, 1] _ rfl (by decide)).all⟩
  · have he : n.isEmpty = false := by cases n; exact absurd rfl h1; rfl
    by_cases h2 : 16 < n.length
    · have h2I : (16 : Int) < (n.length : Int) := by omega
      go_enter Try.func14, Try.ntmps14
      have HS0 := Lib.hid (Ms.open_ HO.out)
      clear HO
      go_wp2_with fail
      refine (HUY.out _ (HS0.out.ldM 0 1 rfl rfl HK.out)).mono ?_
      rintro e W1 ⟨rfl, hb⟩
      have HS1 := Lib.hid (HS0.out.after hb)
      clear hb HS0
      go_wp2_with (first
        | (have hq := HS1; clear hq; (with_reducible refine atAlloc ?_); refine wpList_alloc_b rfl (some 9) rfl 66 (#[.int .i64 0, .int .i64 0]) (by kernel_rfl) ?_; intro g2 W2 hb hB hg; have HS2 := Lib.hid (HS1.out.new hb hB hg); clear hb hB hg HS1)
        | (have hq := HS2; clear hq; (with_reducible refine atStore ?_); refine wpList_store_at rfl 66 _ _ rfl (HS2.out.at_ 2 rfl) (acV c) rfl rfl (by kernel_rfl) (Nat.le_of_ble_eq_true rfl) (by kernel_rfl) ?_; intro W3 hB hP; have HS3 := Lib.hid (HS2.out.put 2 rfl (new := (acA c)) hB hP); clear hB hP HS2))
      go_ret
      exact ⟨rfl, (HS3.out.selL [0, 1] _ rfl (by decide)).all⟩
    · have h2I : (n.length : Int) ≤ 16 := by omega
      have h2n : n.length ≤ 16 := by omega
      by_cases h3 : amount < 0
      · go_enter Try.func14, Try.ntmps14
        have HS0 := Lib.hid (Ms.open_ HO.out)
        clear HO
        go_wp2_with fail
        refine (HUY.out _ (HS0.out.ldM 0 1 rfl rfl HK.out)).mono ?_
        rintro e W1 ⟨rfl, hb⟩
        have HS1 := Lib.hid (HS0.out.after hb)
        clear hb HS0
        go_wp2_with (first
          | (have hq := HS1; clear hq; (with_reducible refine atAlloc ?_); refine wpList_alloc_b rfl (some 9) rfl 66 (#[.int .i64 0, .int .i64 0]) (by kernel_rfl) ?_; intro g2 W2 hb hB hg; have HS2 := Lib.hid (HS1.out.new hb hB hg); clear hb hB hg HS1)
          | (have hq := HS2; clear hq; (with_reducible refine atStore ?_); refine wpList_store_at rfl 66 _ _ rfl (HS2.out.at_ 2 rfl) (acV c) rfl rfl (by kernel_rfl) (Nat.le_of_ble_eq_true rfl) (by kernel_rfl) ?_; intro W3 hB hP; have HS3 := Lib.hid (HS2.out.put 2 rfl (new := (acA c)) hB hP); clear hB hP HS2))
        go_ret
        exact ⟨rfl, (HS3.out.selL [0, 1] _ rfl (by decide)).all⟩
      · have h3n : 0 ≤ amount := by omega
        have h4 : 1099511627776 < amount := by
          unfold mayE at hm
          split at hm
          · rename_i h; rcases h with h | h | h | h
            · exact absurd h h1
            · omega
            · omega
            · exact h
          · omega
        clear hm
        go_enter Try.func14, Try.ntmps14
        have HS0 := Lib.hid (Ms.open_ HO.out)
        clear HO
        go_wp2_with fail
        refine (HUY.out _ (HS0.out.ldM 0 1 rfl rfl HK.out)).mono ?_
        rintro e W1 ⟨rfl, hb⟩
        have HS1 := Lib.hid (HS0.out.after hb)
        clear hb HS0
        go_wp2_with (first
          | (have hq := HS1; clear hq; (with_reducible refine atAlloc ?_); refine wpList_alloc_b rfl (some 9) rfl 66 (#[.int .i64 0, .int .i64 0]) (by kernel_rfl) ?_; intro g2 W2 hb hB hg; have HS2 := Lib.hid (HS1.out.new hb hB hg); clear hb hB hg HS1)
          | (have hq := HS2; clear hq; (with_reducible refine atStore ?_); refine wpList_store_at rfl 66 _ _ rfl (HS2.out.at_ 2 rfl) (acV c) rfl rfl (by kernel_rfl) (Nat.le_of_ble_eq_true rfl) (by kernel_rfl) ?_; intro W3 hB hP; have HS3 := Lib.hid (HS2.out.put 2 rfl (new := (acA c)) hB hP); clear hB hP HS2))
        go_ret
        exact ⟨rfl, (HS3.out.selL [0, 1] _ rfl (by decide)).all⟩
set_option maxHeartbeats 8000000 in
theorem add_f (g b : Nat) (half : Int) (L : Led) (n : Nm) (amount now : Int) (w : World) (hO : (ldP g b half L).ok w) (hK : LOk half L) (hn : n.length ≤ maxLen) (hu : userE L n now = 0) (hm : mayE n amount = 0) (hl : look L n = none) (hf : 1024 ≤ L.length) : Calls Try.prog 14 #[.pointer (some ⟨g, 0, none⟩), str n, .int .i64 amount, .int .i64 now] w fun e w' => e = .returned (.int .i64 5) ∧ Ms w (ldP g b half L).bl [ldP g b half L] w' := by
  have HO := Lib.hid hO
  have HK := Lib.hid hK
  have HNL := Lib.hid hn
  have HU := Lib.hid hu
  obtain ⟨c, hc⟩ : ∃ c, c = acc L n := ⟨_, rfl⟩
  obtain ⟨r, hr⟩ : ∃ r, r = (look L n).isSome := ⟨_, rfl⟩
  have HUY := Lib.hid (fun (w : World) (hR : LdR w g b half L) => user_y g b half L n now w hR hn hu)
  rw [← hc, ← hr] at HUY
  have HC := Lib.hid hc
  have HRr := Lib.hid hr
  have hse := str_empty n
  have hss := str_size n
  have hmm : n ≠ [] ∧ n.length ≤ 16 ∧ 0 ≤ amount ∧ amount ≤ 1099511627776 := by
    unfold mayE at hm
    split at hm
    · omega
    · rename_i h
      simp only [not_or] at h
      exact ⟨h.1, by omega, by omega, by omega⟩
  have he : n.isEmpty = false := by cases n; exact absurd rfl hmm.1; rfl
  have h2I : (n.length : Int) ≤ 16 := by omega
  have h3 : 0 ≤ amount := hmm.2.2.1
  have h4 : amount ≤ 1099511627776 := hmm.2.2.2
  have hrf : r = false := by rw [hr, hl]; rfl
  subst hrf
  have hfI : (1024 : Int) ≤ (L.length : Int) := by omega
  clear hO hK hn hu hc hr hm hmm hl
  go_enter Try.func14, Try.ntmps14
  have HS0 := Lib.hid (Ms.open_ HO.out)
  clear HO
  go_wp2_with fail
  refine (HUY.out _ (HS0.out.ldM 0 1 rfl rfl HK.out)).mono ?_
  rintro e W1 ⟨rfl, hb⟩
  have HS1 := Lib.hid (HS0.out.after hb)
  clear hb HS0
  go_wp2_with (first
    | (have hq := HS1; clear hq; (with_reducible refine atAlloc ?_); refine wpList_alloc_b rfl (some 9) rfl 66 (#[.int .i64 0, .int .i64 0]) (by kernel_rfl) ?_; intro g2 W2 hb hB hg; have HS2 := Lib.hid (HS1.out.new hb hB hg); clear hb hB hg HS1)
    | (have hq := HS2; clear hq; (with_reducible refine atStore ?_); refine wpList_store_at rfl 66 _ _ rfl (HS2.out.at_ 2 rfl) (acV c) rfl rfl (by kernel_rfl) (Nat.le_of_ble_eq_true rfl) (by kernel_rfl) ?_; intro W3 hB hP; have HS3 := Lib.hid (HS2.out.put 2 rfl (new := (acA c)) hB hP); clear hB hP HS2; obtain ⟨r0a, r0b, r0c⟩ := HS3.out.rules 0 rfl)
    | (have hq := HS3; clear hq; refine wpList_lenMp (HS3.out.mpOk 1 rfl) (by kernel_rfl) _ 54 Try.underlying54 rfl rfl _ rfl ?_; clear r0a r0b r0c))
  go_ret
  exact ⟨rfl, (HS3.out.selL [0, 1] _ rfl (by decide)).all⟩
set_option maxHeartbeats 8000000 in
theorem add_o (g b : Nat) (half : Int) (L : Led) (n : Nm) (amount now : Int) (w : World) (hO : (ldP g b half L).ok w) (hK : LOk half L) (hn : n.length ≤ maxLen) (hu : userE L n now = 0) (hm : mayE n amount = 0) (a : Ac) (hl : look L n = some a) : Calls Try.prog 14 #[.pointer (some ⟨g, 0, none⟩), str n, .int .i64 amount, .int .i64 now] w fun e w' => e = .returned (.int .i64 0) ∧ Ms w (ldP g b half L).bl [ldP g b half (put L n (newAc half L n amount now))] w' := by
  have HO := Lib.hid hO
  have HK := Lib.hid hK
  have HNL := Lib.hid hn
  have HU := Lib.hid hu
  obtain ⟨c, hc⟩ : ∃ c, c = acc L n := ⟨_, rfl⟩
  obtain ⟨r, hr⟩ : ∃ r, r = (look L n).isSome := ⟨_, rfl⟩
  have HUY := Lib.hid (fun (w : World) (hR : LdR w g b half L) => user_y g b half L n now w hR hn hu)
  rw [← hc, ← hr] at HUY
  have HC := Lib.hid hc
  have HRr := Lib.hid hr
  have hse := str_empty n
  have hss := str_size n
  have hmm : n ≠ [] ∧ n.length ≤ 16 ∧ 0 ≤ amount ∧ amount ≤ 1099511627776 := by
    unfold mayE at hm
    split at hm
    · omega
    · rename_i h
      simp only [not_or] at h
      exact ⟨h.1, by omega, by omega, by omega⟩
  have he : n.isEmpty = false := by cases n; exact absurd rfl hmm.1; rfl
  have h2I : (n.length : Int) ≤ 16 := by omega
  have h3 : 0 ≤ amount := hmm.2.2.1
  have h4 : amount ≤ 1099511627776 := hmm.2.2.2
  obtain ⟨z, hz⟩ : ∃ z, z = newAc half L n amount now := ⟨_, rfl⟩
  obtain ⟨L2, hL2⟩ : ∃ L2, L2 = put L n (newAc half L n amount now) := ⟨_, rfl⟩
  have HL2 := Lib.hid (show put L n z = L2 by rw [hL2, hz])
  rw [← hL2]
  have hrt : r = true := by rw [hr, hl]; rfl
  subst hrt
  have hca : c = a := by rw [hc]; unfold acc; rw [hl]; rfl
  subst hca
  obtain ⟨⟨t0, t1⟩, t2⟩ := userE_zero.1 hu
  rw [← hc] at t2
  have hao := hK.ac _ (look_mem hl)
  have HLt := Lib.hid (fun (w : World) (hR : LdR w g b half L) => later_c g b half L c now w hR hao t2 t1)
  obtain ⟨y, hy⟩ : ∃ y, y = lat half c now := ⟨_, rfl⟩
  have hyo := (lat_ok hK.half.1 hao t2 t1).1
  rw [← hy] at hyo HLt
  have y0 := hyo.h0
  have y1 := hyo.h1
  have wr1 : IntKind.i64.wrap (y.has + amount) = y.has + amount := wrap_small (by omega) (by omega)
  obtain ⟨h9, h9e⟩ : ∃ h9, h9 = min (y.has + amount) 1152921504606846976 := ⟨_, rfl⟩
  have hmin : min (y.has + amount) 1152921504606846976 = h9 := h9e.symm
  have HZ := Lib.hid (show z = ⟨h9, y.at_⟩ by rw [hz, h9e, hy]; unfold newAc; rw [hl])
  clear hO hK hn hu hc hr hm hmm hl hz hL2 hao hyo hy y0 y1 t0 t1 t2 h9e
  go_enter Try.func14, Try.ntmps14
  have HS0 := Lib.hid (Ms.open_ HO.out)
  clear HO
  go_wp2_with fail
  refine (HUY.out _ (HS0.out.ldM 0 1 rfl rfl HK.out)).mono ?_
  rintro e W1 ⟨rfl, hb⟩
  have HS1 := Lib.hid (HS0.out.after hb)
  clear hb HS0
  go_wp2_with (first
    | (have hq := HS1; clear hq; (with_reducible refine atAlloc ?_); refine wpList_alloc_b rfl (some 9) rfl 66 (#[.int .i64 0, .int .i64 0]) (by kernel_rfl) ?_; intro g2 W2 hb hB hg; have HS2 := Lib.hid (HS1.out.new hb hB hg); clear hb hB hg HS1)
    | (have hq := HS2; clear hq; (with_reducible refine atStore ?_); refine wpList_store_at rfl 66 _ _ rfl (HS2.out.at_ 2 rfl) (acV c) rfl rfl (by kernel_rfl) (Nat.le_of_ble_eq_true rfl) (by kernel_rfl) ?_; intro W3 hB hP; have HS3 := Lib.hid (HS2.out.put 2 rfl (new := (acA c)) hB hP); clear hB hP HS2)
    | (have hq := HS3; clear hq; (with_reducible refine atLoad ?_); refine wpList_load_at rfl 66 _ rfl (HS3.out.at_ 2 rfl) 2 (acV c) rfl _ Try.underlying66 rfl (by kernel_rfl) (Nat.le_of_ble_eq_true rfl) rfl ?_))
  refine (HLt.out _ (HS3.out.ldM 0 1 rfl rfl HK.out)).mono ?_
  rintro e W4 ⟨rfl, hb⟩
  have HS4 := Lib.hid (HS3.out.after hb)
  clear hb HS3
  go_wp2_with (first
    | (have hq := HS4; clear hq; (with_reducible refine atStore ?_); refine wpList_store_at rfl 66 _ _ rfl (HS4.out.at_ 2 rfl) (acV y) rfl rfl (by kernel_rfl) (Nat.le_of_ble_eq_true rfl) (by kernel_rfl) ?_; intro W5 hB hP; have HS5 := Lib.hid (HS4.out.put 2 rfl (new := (acA y)) hB hP); clear hB hP HS4; obtain ⟨r2a, r2b, r2c⟩ := HS5.out.rules 2 rfl)
    | (have hq := HS5; clear hq; (with_reducible refine atStore ?_); refine wpList_store_at rfl 3 _ _ rfl (HS5.out.at_ 2 rfl) (.int .i64 h9) rfl rfl (by kernel_rfl) (Nat.le_of_ble_eq_true rfl) (by kernel_rfl) ?_; intro W6 hB hP; have HS6 := Lib.hid (HS5.out.put 2 rfl (new := #[.int .i64 h9, .int .i64 y.at_]) hB hP); clear hB hP HS5; clear r2a r2b r2c))
  have hz := HZ.out
  subst hz
  go_wp2_with fail
  refine region_bt 6 (Ms w (ldP g b half L).bl _) (by kernel_rfl) (by kernel_rfl) HS6.out ?_
  clear HS6
  intro W7 hS
  have q0 := hS.on 0 rfl
  have HS7 := Lib.hid hS
  clear hS
  simp only [List.take_succ_cons, List.take_zero, List.drop_succ_cons, List.drop_zero]
  repeat (first | go_big_quiet_skip | (refine wpQuiet_load_b (by kernel_rfl) 66 _ rfl (HS7.out.at_ 2 rfl) 2 (.agg #[.int .i64 h9, .int .i64 y.at_]) rfl _ Try.underlying66 rfl (by kernel_rfl) (Nat.le_of_ble_eq_true rfl) rfl ?_) | go_big_quiet_step (fail) | quiet_step (fail))
  refine wpQuiet_nil ?_
  intro W8 hb
  have HS8 := Lib.hid (HS7.out.after hb)
  clear hb HS7 q0
  refine wpList_putMp HS8.out 1 rfl rfl _ _ _ 54 Try.underlying54 rfl n (⟨h9, y.at_⟩ : Ac) rfl rfl rfl HNL.out HK.out.ris HK.out.room _ HL2.out ?_
  intro W9 hM
  have HS9 := Lib.hid hM
  clear hM HS8
  go_wp2_with fail
  go_ret
  exact ⟨rfl, (HS9.out.selL [0, 1] _ rfl (by decide)).all⟩
set_option maxHeartbeats 8000000 in
theorem add_n (g b : Nat) (half : Int) (L : Led) (n : Nm) (amount now : Int) (w : World) (hO : (ldP g b half L).ok w) (hK : LOk half L) (hn : n.length ≤ maxLen) (hu : userE L n now = 0) (hm : mayE n amount = 0) (hl : look L n = none) (hf : L.length < 1024) : Calls Try.prog 14 #[.pointer (some ⟨g, 0, none⟩), str n, .int .i64 amount, .int .i64 now] w fun e w' => e = .returned (.int .i64 0) ∧ Ms w (ldP g b half L).bl [ldP g b half (put L n (newAc half L n amount now))] w' := by
  have HO := Lib.hid hO
  have HK := Lib.hid hK
  have HNL := Lib.hid hn
  have HU := Lib.hid hu
  obtain ⟨c, hc⟩ : ∃ c, c = acc L n := ⟨_, rfl⟩
  obtain ⟨r, hr⟩ : ∃ r, r = (look L n).isSome := ⟨_, rfl⟩
  have HUY := Lib.hid (fun (w : World) (hR : LdR w g b half L) => user_y g b half L n now w hR hn hu)
  rw [← hc, ← hr] at HUY
  have HC := Lib.hid hc
  have HRr := Lib.hid hr
  have hse := str_empty n
  have hss := str_size n
  have hmm : n ≠ [] ∧ n.length ≤ 16 ∧ 0 ≤ amount ∧ amount ≤ 1099511627776 := by
    unfold mayE at hm
    split at hm
    · omega
    · rename_i h
      simp only [not_or] at h
      exact ⟨h.1, by omega, by omega, by omega⟩
  have he : n.isEmpty = false := by cases n; exact absurd rfl hmm.1; rfl
  have h2I : (n.length : Int) ≤ 16 := by omega
  have h3 : 0 ≤ amount := hmm.2.2.1
  have h4 : amount ≤ 1099511627776 := hmm.2.2.2
  obtain ⟨z, hz⟩ : ∃ z, z = newAc half L n amount now := ⟨_, rfl⟩
  obtain ⟨L2, hL2⟩ : ∃ L2, L2 = put L n (newAc half L n amount now) := ⟨_, rfl⟩
  have HL2 := Lib.hid (show put L n z = L2 by rw [hL2, hz])
  rw [← hL2]
  have hrf : r = false := by rw [hr, hl]; rfl
  subst hrf
  have hca : c = ⟨0, 0⟩ := by rw [hc]; unfold acc; rw [hl]; rfl
  subst hca
  have hfI : (L.length : Int) < 1024 := by omega
  have wr1 : IntKind.i64.wrap (0 + amount) = amount := by rw [Int.zero_add]; exact wrap_small (by omega) (by omega)
  obtain ⟨h9, h9e⟩ : ∃ h9, h9 = min amount 1152921504606846976 := ⟨_, rfl⟩
  have hmin : min amount 1152921504606846976 = h9 := h9e.symm
  have wr2 : IntKind.i64.wrap amount = amount := wrap_small (by omega) (by omega)
  have HZ := Lib.hid (show z = ⟨h9, now⟩ by rw [hz, h9e]; unfold newAc; rw [hl]; simp)
  have HHC := Lib.hid hf
  clear hO hK hn hu hc hr hm hmm hl hz hL2 hf h9e
  go_enter Try.func14, Try.ntmps14
  have HS0 := Lib.hid (Ms.open_ HO.out)
  clear HO
  go_wp2_with fail
  refine (HUY.out _ (HS0.out.ldM 0 1 rfl rfl HK.out)).mono ?_
  rintro e W1 ⟨rfl, hb⟩
  have HS1 := Lib.hid (HS0.out.after hb)
  clear hb HS0
  go_wp2_with (first
    | (have hq := HS1; clear hq; (with_reducible refine atAlloc ?_); refine wpList_alloc_b rfl (some 9) rfl 66 (#[.int .i64 0, .int .i64 0]) (by kernel_rfl) ?_; intro g2 W2 hb hB hg; have HS2 := Lib.hid (HS1.out.new hb hB hg); clear hb hB hg HS1)
    | (have hq := HS2; clear hq; (with_reducible refine atStore ?_); refine wpList_store_at rfl 66 _ _ rfl (HS2.out.at_ 2 rfl) (acV (⟨0, 0⟩ : Ac)) rfl rfl (by kernel_rfl) (Nat.le_of_ble_eq_true rfl) (by kernel_rfl) ?_; intro W3 hB hP; have HS3 := Lib.hid (HS2.out.put 2 rfl (new := (acA (⟨0, 0⟩ : Ac))) hB hP); clear hB hP HS2; obtain ⟨r0a, r0b, r0c⟩ := HS3.out.rules 0 rfl)
    | (have hq := HS3; clear hq; refine wpList_lenMp (HS3.out.mpOk 1 rfl) (by kernel_rfl) _ 54 Try.underlying54 rfl rfl _ rfl ?_; clear r0a r0b r0c)
    | (have hq := HS3; clear hq; (with_reducible refine atStore ?_); refine wpList_store_at rfl 3 _ _ rfl (HS3.out.at_ 2 rfl) (.int .i64 now) rfl rfl (by kernel_rfl) (Nat.le_of_ble_eq_true rfl) (by kernel_rfl) ?_; intro W4 hB hP; have HS4 := Lib.hid (HS3.out.put 2 rfl (new := #[.int .i64 (⟨0, 0⟩ : Ac).has, .int .i64 now]) hB hP); clear hB hP HS3; obtain ⟨r2a, r2b, r2c⟩ := HS4.out.rules 2 rfl)
    | (have hq := HS4; clear hq; (with_reducible refine atStore ?_); refine wpList_store_at rfl 3 _ _ rfl (HS4.out.at_ 2 rfl) (.int .i64 h9) rfl rfl (by kernel_rfl) (Nat.le_of_ble_eq_true rfl) (by kernel_rfl) ?_; intro W5 hB hP; have HS5 := Lib.hid (HS4.out.put 2 rfl (new := #[.int .i64 h9, .int .i64 now]) hB hP); clear hB hP HS4; clear r2a r2b r2c))
  have hz := HZ.out
  subst hz
  go_wp2_with fail
  refine region_bt 6 (Ms w (ldP g b half L).bl _) (by kernel_rfl) (by kernel_rfl) HS5.out ?_
  clear HS5
  intro W6 hS
  have q0 := hS.on 0 rfl
  have HS6 := Lib.hid hS
  clear hS
  simp only [List.take_succ_cons, List.take_zero, List.drop_succ_cons, List.drop_zero]
  repeat (first | go_big_quiet_skip | (refine wpQuiet_load_b (by kernel_rfl) 66 _ rfl (HS6.out.at_ 2 rfl) 2 (.agg #[.int .i64 h9, .int .i64 now]) rfl _ Try.underlying66 rfl (by kernel_rfl) (Nat.le_of_ble_eq_true rfl) rfl ?_) | go_big_quiet_step (fail) | quiet_step (fail))
  refine wpQuiet_nil ?_
  intro W7 hb
  have HS7 := Lib.hid (HS6.out.after hb)
  clear hb HS6 q0
  refine wpList_putMp HS7.out 1 rfl rfl _ _ _ 54 Try.underlying54 rfl n (⟨h9, now⟩ : Ac) rfl rfl rfl HNL.out HK.out.ris HK.out.room _ HL2.out ?_
  intro W8 hM
  have HS8 := Lib.hid hM
  clear hM HS7
  go_wp2_with fail
  go_ret
  exact ⟨rfl, (HS8.out.selL [0, 1] _ rfl (by decide)).all⟩
end Go.Proofs.Ytflgnlpippjhcaa
