/- Safe: the walks of Sum. -/
import Derived.Test.YthoagfoekopioaaY4
set_option linter.unusedVariables false
namespace Go.Proofs.Ythoagfoekopioaa
open Go.RowKit

set_option maxHeartbeats 1000000 in
theorem ssum_c (A : Option Addr) (n c : Nat) (xs : List Int) (w : World) (hR : ReadsI w A n xs) (hx : ∀ x ∈ xs, inI x) :
    Calls Try.prog 18 #[.slice A n c] w fun e w' => e = .returned (.tuple #[.int .i64 (sumV xs), .int .i64 (sumE xs)]) ∧ w = w' := by
  have hl := hR.1
  have hn := hR.2.1
  have HR := Lib.hid hR
  have HX := Lib.hid hx
  have HL := Lib.hid hl
  clear hR hx hl
  go_enter Try.func18, Try.ntmps18
  go_wp2
  go_loop [4, 5, 10] (fun s e i => ∃ (k : Nat) (m : Int), k ≤ n ∧ sumF 0 (xs.take k) = some m ∧ (s = .int .i64 m ∧ e = .int .i64 0) ∧ i = .int .i64 k) (fun _ _ i => n - (intOf i).toNat)
  case atStart => exact ⟨0, 0, by omega, rfl, ⟨rfl, rfl⟩, rfl⟩
  case round =>
    obtain ⟨k, m, hk, hs, ⟨rfl, rfl⟩, rfl⟩ := hrel
    have hm := sumF_in _ _ _ (show inI 0 by unfold inI; omega) hs
    have HS := Lib.hid hs
    clear hs
    by_cases hlt : k < n
    · obtain ⟨ad, rfl, hc⟩ := HR.out.2.2 (by omega)
      have hcell := hc k hlt
      have ht := take_snoc xs k (by rw [HL.out]; exact hlt)
      have hxin := HX.out (xs.getD k 0) (by rw [List.getD_eq_getElem?_getD, List.getElem?_eq_getElem (by rw [HL.out]; exact hlt)]; exact List.getElem_mem _)
      have hsn := sumF_snoc (xs.take k) 0 (xs.getD k 0)
      rw [← ht, HS.out] at hsn
      simp only [Option.bind_some] at hsn
      have hall : sumF 0 (xs.take (k + 1)) = none → sumF 0 xs = none := fun h => by
        have := sumF_none_append (xs.take (k + 1)) (xs.drop (k + 1)) 0 h
        rwa [List.take_append_drop] at this
      have HA := Lib.hid hall
      obtain ⟨x, hx0⟩ : ∃ x, x = xs.getD k 0 := ⟨_, rfl⟩
      rw [← hx0] at hcell hxin hsn
      have HC := Lib.hid (add_c m x hm hxin)
      cases hf : fits (m + x)
      · rw [hf, if_neg (by simp)] at hsn
        have hnone := HA.out hsn
        have e1 : sumV xs = 0 := by unfold sumV; rw [hnone]; rfl
        have e2 : sumE xs = 5 := by unfold sumE; rw [hnone]; rfl
        have E1 := Lib.hid e1
        have E2 := Lib.hid e2
        have HC2 := HC.out
        rw [okV_no hf, okE_no hf] at HC2
        have HC3 := Lib.hid HC2
        clear hsn hnone e1 e2 HC HC2 hf hx0 ht hc hm hxin hall
        go_wp2_with fail
        refine (HC3.out _).mono ?_
        rintro e w' ⟨rfl, rfl⟩
        go_wp2
        go_ret2
        exact ⟨ret_two E1.out.symm E2.out.symm, rfl⟩
      · rw [hf, if_pos rfl] at hsn
        have HSN := Lib.hid hsn
        have HC2 := HC.out
        rw [okV_yes hf, okE_yes hf] at HC2
        have HC3 := Lib.hid HC2
        clear hsn HC HC2 hf hx0 ht hc hm hxin hall
        go_wp2_with fail
        refine (HC3.out _).mono ?_
        rintro e w' ⟨rfl, rfl⟩
        go_wp2
        go_round
        case rel => exact ⟨k + 1, m + x, by omega, HSN.out, ⟨rfl, rfl⟩, by go_num⟩
        case measure => simp [intOf]; omega
    · obtain rfl : n = k := by omega
      have hs := HS.out
      rw [List.take_of_length_le (by rw [HL.out]; exact Nat.le_refl _)] at hs
      have e1 : sumV xs = m := by unfold sumV; rw [hs]; rfl
      have e2 : sumE xs = 0 := by unfold sumE; rw [hs]; rfl
      have E1 := Lib.hid e1
      have E2 := Lib.hid e2
      clear hs e1 e2 hm
      go_wp2
      go_ret2
      exact ⟨ret_two E1.out.symm E2.out.symm, rfl⟩

set_option maxHeartbeats 1000000 in
theorem rsum_c (A : Option Addr) (n c : Nat) (xs : List Int) (w : World) (hR : ReadsI w A n xs) (hx : ∀ x ∈ xs, inI x) :
    Calls Try.prog 19 #[.slice A n c] w fun e w' => e = .returned (.tuple #[.int .i64 (sumV xs), .int .i64 (sumE xs)]) ∧ w = w' := by
  have hl := hR.1
  have hn := hR.2.1
  have HR := Lib.hid hR
  have HX := Lib.hid hx
  have HL := Lib.hid hl
  clear hR hx hl
  go_enter Try.func19, Try.ntmps19
  go_wp2
  go_loop [4, 5] (fun s i => ∃ (k : Nat) (m : Int), k ≤ n ∧ sumF 0 (xs.take k) = some m ∧ s = .int .i64 m ∧ i = .int .i64 k) (fun _ i => n - (intOf i).toNat)
  case atStart => exact ⟨0, 0, by omega, rfl, rfl, rfl⟩
  case round =>
    obtain ⟨k, m, hk, hs, rfl, rfl⟩ := hrel
    have hm := sumF_in _ _ _ (show inI 0 by unfold inI; omega) hs
    have HS := Lib.hid hs
    clear hs
    by_cases hlt : k < n
    · obtain ⟨ad, rfl, hc⟩ := HR.out.2.2 (by omega)
      have hcell := hc k hlt
      have ht := take_snoc xs k (by rw [HL.out]; exact hlt)
      have hxin := HX.out (xs.getD k 0) (by rw [List.getD_eq_getElem?_getD, List.getElem?_eq_getElem (by rw [HL.out]; exact hlt)]; exact List.getElem_mem _)
      have hsn := sumF_snoc (xs.take k) 0 (xs.getD k 0)
      rw [← ht, HS.out] at hsn
      simp only [Option.bind_some] at hsn
      have hall : sumF 0 (xs.take (k + 1)) = none → sumF 0 xs = none := fun h => by
        have := sumF_none_append (xs.take (k + 1)) (xs.drop (k + 1)) 0 h
        rwa [List.take_append_drop] at this
      have HA := Lib.hid hall
      obtain ⟨x, hx0⟩ : ∃ x, x = xs.getD k 0 := ⟨_, rfl⟩
      rw [← hx0] at hcell hxin hsn
      have HC := Lib.hid (radd_c m x hm hxin)
      cases hf : fits (m + x)
      · rw [hf, if_neg (by simp)] at hsn
        have hnone := HA.out hsn
        have e1 : sumV xs = 0 := by unfold sumV; rw [hnone]; rfl
        have e2 : sumE xs = 5 := by unfold sumE; rw [hnone]; rfl
        have E1 := Lib.hid e1
        have E2 := Lib.hid e2
        have HC2 := HC.out
        rw [okV_no hf, okE_no hf] at HC2
        have HC3 := Lib.hid HC2
        clear hsn hnone e1 e2 HC HC2 hf hx0 ht hc hm hxin hall
        go_wp2_with fail
        refine (HC3.out _).mono ?_
        rintro e w' ⟨rfl, rfl⟩
        go_wp2
        go_ret2
        exact ⟨ret_two E1.out.symm E2.out.symm, rfl⟩
      · rw [hf, if_pos rfl] at hsn
        have HSN := Lib.hid hsn
        have HC2 := HC.out
        rw [okV_yes hf, okE_yes hf] at HC2
        have HC3 := Lib.hid HC2
        clear hsn HC HC2 hf hx0 ht hc hm hxin hall
        go_wp2_with fail
        refine (HC3.out _).mono ?_
        rintro e w' ⟨rfl, rfl⟩
        go_wp2
        go_round
        case rel => exact ⟨k + 1, m + x, by omega, HSN.out, rfl, by go_num⟩
        case measure => simp [intOf]; omega
    · obtain rfl : n = k := by omega
      have hs := HS.out
      rw [List.take_of_length_le (by rw [HL.out]; exact Nat.le_refl _)] at hs
      have e1 : sumV xs = m := by unfold sumV; rw [hs]; rfl
      have e2 : sumE xs = 0 := by unfold sumE; rw [hs]; rfl
      have E1 := Lib.hid e1
      have E2 := Lib.hid e2
      clear hs e1 e2 hm
      go_wp2
      go_ret2
      exact ⟨ret_two E1.out.symm E2.out.symm, rfl⟩
end Go.Proofs.Ythoagfoekopioaa
