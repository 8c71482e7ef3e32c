/- Prof: equal. -/
import Derived.Test.YtkgdcicaokekfaaDoorFn
set_option linter.unusedVariables false
namespace Go.Proofs.YtkgdcicaokekfaaDoor
open Go.RowKit Go.Sort

set_option maxRecDepth 100000 in
set_option maxHeartbeats 16000000 in
theorem equal_c (p q : Nat) (nodes : NS) (A B : Option Addr) (c d : Nat) (l : List (Sp NS)) (w : World) (hG : Good l) (hp : (Own.pf p nodes A c l).ok w) (hq : (Own.pf q nodes B d l).ok w) :
    Calls Tryd.prog 21 #[.pointer (some ⟨p, 0, none⟩), .pointer (some ⟨q, 0, none⟩)] w fun e w' => e = .returned (.bool true) ∧ Below w.heap.size w w' := by
  have HG := Lib.hid hG
  have HP := Lib.hid hp
  have HQ := Lib.hid hq
  have hlI : (l.length : Int) ≤ 4096 := by have := hG.len; omega
  have HKP := Lib.hid (fun (W : World) (hb : Below w.heap.size w W) => (Own.pf p nodes A c l).keep w W (fun k hk => hb.block k ((Own.pf p nodes A c l).lt w hp k hk)) hp)
  have HKQ := Lib.hid (fun (W : World) (hb : Below w.heap.size w W) => (Own.pf q nodes B d l).keep w W (fun k hk => hb.block k ((Own.pf q nodes B d l).lt w hq k hk)) hq)
  clear hG hp hq
  go_enter Tryd.func21, Tryd.ntmps21
  have HS0 := Lib.hid (Ms.nil w noB)
  go_wp2_with fail
  refine (steps_f p nodes A c l _ HG.out HP.out).mono ?_
  rintro e W1 ⟨A1, c1, rfl, hM⟩
  have HS1 := Lib.hid (HS0.out.made hM)
  clear hM HS0
  go_wp2_with fail
  go_wp2_with fail
  refine (steps_f q nodes B d l _ HG.out (HKQ.out _ HS1.out.below)).mono ?_
  rintro e W2 ⟨A2, c2, rfl, hM⟩
  have HS2 := Lib.hid (HS1.out.made hM)
  clear hM HS1
  go_wp2_with fail
  refine (ints_c A1 A2 l.length c1 l.length c2 _ _ _ (ReadsI.of_row (HS2.out.own 0 rfl) (by simp)) (ReadsI.of_row (HS2.out.own 1 rfl) (by simp))).mono ?_
  rintro e W3 ⟨rfl, hb⟩
  have HS3 := Lib.hid (HS2.out.after hb)
  clear hb HS2
  rw [show decide (l.map Sp.at_ = l.map Sp.at_) = true by simp]
  go_wp2_with fail
  go_loopw [21] (fun k wr => ∃ kk : Nat, kk ≤ l.length ∧ k = .int .i64 (kk : Nat) ∧ Hid (Ms w noB [.row 3 1 (.slice A1 l.length c1) l.length (nums (l.map Sp.at_)), .row 3 1 (.slice A2 l.length c2) l.length (nums (l.map Sp.at_))] wr)) (fun k _ => l.length - (intOf k).toNat)
  case atStart => exact ⟨0, by omega, rfl, HS3⟩
  case round =>
    obtain ⟨k, hkl, rfl, HS4⟩ := hrel
    by_cases hlt : k < l.length
    · have hltI : (k : Int) < (l.length : Int) := by omega
      obtain ⟨ad, hA1, hc⟩ := (ReadsI.of_row (HS4.out.own 0 rfl) (by simp)).at_ (Below.refl _ _) hlt
      obtain ⟨t, ht⟩ : ∃ t, t = (l.map Sp.at_).getD k 0 := ⟨_, rfl⟩
      rw [← ht] at hc
      clear ht
      subst hA1
      obtain ⟨x, hx⟩ : ∃ x, x = freeN l 0 t := ⟨_, rfl⟩
      have HX := Lib.hid hx
      clear hx
      obtain ⟨fe, hfe⟩ : ∃ fe, fe = freeE 0 t := ⟨_, rfl⟩
      have HFE := Lib.hid hfe
      clear hfe
      have HEQ := Lib.hid (fun w9 => show (Op.equalIn 10000 24 (nsV x) (nsV x)).run Tryd.prog w9 = .ok true w9 by rw [eqNs_run]; simp)
      go_wp2_with fail
      refine (free_f p nodes A c l t _ HG.out (HKP.out _ HS4.out.below)).mono ?_
      rintro e W5 ⟨rfl, hb⟩
      have HS5 := Lib.hid (HS4.out.after hb)
      clear hb HS4
      rw [← HX.out, ← HFE.out]
      clear hc
      go_wp2_with (first
        | (have hq := HS5; clear hq; (with_reducible refine atAlloc ?_); refine wpList_alloc_b rfl (some 8) rfl 24 (#[.int .u64 0, .int .u64 0, .int .u64 0, .int .u64 0]) (by kernel_rfl) ?_; intro g6 W6 hb hB hg; have HS6 := Lib.hid (HS5.out.new hb hB hg); clear hb hB hg HS5)
        | (have hq := HS6; clear hq; (with_reducible refine atStore ?_); refine wpList_store_at rfl 24 _ _ rfl (HS6.out.at_ 2 rfl) (nsV x) rfl rfl (by kernel_rfl) (Nat.le_of_ble_eq_true rfl) (by kernel_rfl) ?_; intro W7 hB hP; have HS7 := Lib.hid (HS6.out.put 2 rfl (new := (nsA x)) hB hP); clear hB hP HS6))
      refine (free_f q nodes B d l t _ HG.out (HKQ.out _ HS7.out.below)).mono ?_
      rintro e W8 ⟨rfl, hb⟩
      have HS8 := Lib.hid (HS7.out.after hb)
      clear hb HS7
      rw [← HX.out, ← HFE.out]
      go_wp2_with (first
        | (have hq := HS8; clear hq; (with_reducible refine atAlloc ?_); refine wpList_alloc_b rfl (some 10) rfl 24 (#[.int .u64 0, .int .u64 0, .int .u64 0, .int .u64 0]) (by kernel_rfl) ?_; intro g9 W9 hb hB hg; have HS9 := Lib.hid (HS8.out.new hb hB hg); clear hb hB hg HS8)
        | (have hq := HS9; clear hq; (with_reducible refine atStore ?_); refine wpList_store_at rfl 24 _ _ rfl (HS9.out.at_ 3 rfl) (nsV x) rfl rfl (by kernel_rfl) (Nat.le_of_ble_eq_true rfl) (by kernel_rfl) ?_; intro W10 hB hP; have HS10 := Lib.hid (HS9.out.put 3 rfl (new := (nsA x)) hB hP); clear hB hP HS9)
        | (have hq := HS10; clear hq; (with_reducible refine atLoad ?_); refine wpList_load_at rfl 24 _ rfl (HS10.out.at_ 2 rfl) 4 (nsV x) rfl _ Tryd.underlying24 rfl (by kernel_rfl) (Nat.le_of_ble_eq_true rfl) rfl ?_)
        | (have hq := HS10; clear hq; (with_reducible refine atLoad ?_); refine wpList_load_at rfl 24 _ rfl (HS10.out.at_ 3 rfl) 4 (nsV x) rfl _ Tryd.underlying24 rfl (by kernel_rfl) (Nat.le_of_ble_eq_true rfl) rfl ?_)
        | (have hq := HS10; clear hq; refine wpList_neq (by kernel_rfl) 24 _ _ _ rfl rfl rfl (by kernel_rfl) true (HEQ.out _) ?_))
      refine ⟨⟨k + 1, by omega, by go_num, ?_⟩, by simp [intOf]; omega⟩
      exact Lib.hid (Ms.cut (l := [.row 3 1 (.slice (some ad) l.length c1) l.length (nums (l.map Sp.at_)), .row 3 1 (.slice A2 l.length c2) l.length (nums (l.map Sp.at_))]) (k := [(.blk g6 24 (nsA x)), (.blk g9 24 (nsA x))]) HS10.out)
    · obtain rfl : k = l.length := by omega
      go_wp2_with fail
      go_ret
      exact ⟨rfl, HS4.out.below⟩
end Go.Proofs.YtkgdcicaokekfaaDoor
