/- Code: the law CodeOne. -/
import Derived.Test.YtphmaimgpolaoaaCc
import Derived.Deep.LoopGhost
set_option linter.unusedVariables false
namespace Go.Proofs.Ytphmaimgpolaoaa
open Go.RowKit Go.Sort

/-- What is read on, and what was put, are the bytes. -/
theorem one_step {bs : List UInt8} {p : Nat} {v : Int} {q : Nat} {y' f' : Int} (hp : p ≤ bs.length) (h : intR bs p 0 0 = (v, q, y', f')) (hw : wellB y' f' = true) : p < q ∧ q ≤ bs.length ∧ y' = 0 ∧ f' = 0 ∧ (-9223372036854775808 ≤ v ∧ v ≤ 9223372036854775807) ∧ bs.take p ++ encI v = bs.take q := by
  obtain ⟨v1, q1, y1, f1, ht⟩ : ∃ v1 q1 y1 f1, pkR bs p 0 0 = (v1, q1, y1, f1) := ⟨_, _, _, _, rfl⟩
  unfold intR at h
  rw [ht] at h
  simp only at h
  split at h
  · rename_i hw1
    simp only [Prod.mk.injEq] at h
    obtain ⟨rfl, rfl, rfl, rfl⟩ := h
    obtain ⟨_, hy, hf, h1, h2, u, hu, hv⟩ := pk_le hp ht hw
    obtain ⟨hlt, hk, hkl, he⟩ := dec_spec hu
    refine ⟨h1, h2, hy, hf, hv ▸ unzig_in hlt, ?_⟩
    rw [hv, he, show bs.take q1 = bs.take (p + (q1 - p)) by rw [show p + (q1 - p) = q1 by omega], List.take_add]
  · rename_i hw1
    simp only [Prod.mk.injEq] at h
    obtain ⟨rfl, rfl, rfl, rfl⟩ := h
    exact absurd hw hw1
set_option maxRecDepth 100000 in
set_option maxHeartbeats 8000000 in
theorem codeOne_w (A : Option Addr) (n c : Nat) (bs : List UInt8) (w : World) (hR : ReadsB w A n bs) (hs : n ≤ 140737488355000) (hc : n ≤ c) :
    Calls Try.prog 3 #[.slice A n c] w fun e w' => e = .returned (.bool true) ∧ Below w.heap.size w w' := by
  have HR := Lib.hid hR
  have HL := Lib.hid hR.1
  have HN := Lib.hid (And.intro hs hc)
  clear hR hs hc
  have HS0 := Lib.hid (Ms.nil w noB)
  go_enter Try.func3, Try.ntmps3
  go_wp2_with fail
  refine (new_c A n c _).mono ?_
  rintro e W1 ⟨r, rfl, hM⟩
  have HS1 := Lib.hid (HS0.out.made hM)
  clear hM HS0
  go_wp2_with (refine wpList_alloc_b rfl (some 4) rfl 26 #[.slice none 0 0] (by kernel_rfl) ?_; intro g2 W2 hb hB hg; have HS2 := Lib.hid (HS1.out.wrNew hb hB hg); clear hb hB hg HS1)
  have hn63 : n ≤ 9223372036854775807 := by have := HN.out.1; omega
  go_simp
  go_loopg [] (n + 1) (fun k wr => ∃ (p : Nat) (y f : Int) (B : Option Addr) (d : Nat) (out : List UInt8), p ≤ n ∧ k = (if wellB y f = true then n - p + 1 else 0) ∧ (wellB y f = true → y = 0 ∧ f = 0 ∧ out = bs.take p) ∧ Ms w noB [blkR r A n c p y f, .wr g2 B d out] wr)
  case atStart => exact ⟨0, 0, 0, none, 0, [], by omega, by simp [wellB], fun _ => ⟨rfl, rfl, rfl⟩, HS2.out⟩
  case round =>
    obtain ⟨p, y, f, B, d, out, hp, hk, hinv, hS⟩ := hrel
    clear HS2
    have HS3 := Lib.hid hS
    have HK := Lib.hid hk
    clear hS hk
    have HI2 := Lib.hid (fun w' => show (Op.equalIn 10000 30 (.agg (fltA y f)) (.agg (fltA 0 0))).run Try.prog w' = .ok (wellB y f) w' by rw [eqFlt_run]; rfl)
    have HLf := Lib.hid (fun w' hB => left_c r A n c p y f w' hB hp hn63)
    cases hw : wellB y f
    · clear hinv
      rw [hw] at HI2
      by_cases hlt : p < n
      · have hlI : (0 : Int) < ((n - p : Nat) : Int) := by omega
        go_wp2_with fail
        refine (HLf.out _ (HS3.out.at_ 0 rfl)).mono ?_
        rintro e W4 ⟨rfl, hb⟩
        have HS4 := Lib.hid (HS3.out.after hb)
        clear hb HS3
        go_wp2_with fail
        refine (fault_c r A n c p y f _ (HS4.out.at_ 0 rfl)).mono ?_
        rintro e W5 ⟨rfl, hb⟩
        have HS5 := Lib.hid (HS4.out.after hb)
        clear hb HS4
        go_wp2_with (refine wpList_eql (by kernel_rfl) 30 _ _ _ rfl rfl rfl (by kernel_rfl) false (HI2.out _) ?_)
        refine (fault_c r A n c p y f _ (HS5.out.at_ 0 rfl)).mono ?_
        rintro e W6 ⟨rfl, hb⟩
        have HS6 := Lib.hid (HS5.out.after hb)
        clear hb HS5
        go_wp2_with (refine wpList_neq (by kernel_rfl) 30 _ _ _ rfl rfl rfl (by kernel_rfl) false (HI2.out _) ?_)
        refine (alive_c _).mono ?_
        rintro e W7 ⟨rfl, hb⟩
        have HS7 := Lib.hid (HS6.out.after hb)
        clear hb HS6
        go_wp2
        go_ret
        exact ⟨rfl, HS7.out.below⟩
      · have hlI : ((n - p : Nat) : Int) = 0 := by omega
        rw [hlI] at HLf
        clear hlI
        go_wp2_with fail
        refine (HLf.out _ (HS3.out.at_ 0 rfl)).mono ?_
        rintro e W4 ⟨rfl, hb⟩
        have HS4 := Lib.hid (HS3.out.after hb)
        clear hb HS3
        go_wp2_with fail
        refine (fault_c r A n c p y f _ (HS4.out.at_ 0 rfl)).mono ?_
        rintro e W6 ⟨rfl, hb⟩
        have HS6 := Lib.hid (HS4.out.after hb)
        clear hb HS4
        go_wp2_with (refine wpList_neq (by kernel_rfl) 30 _ _ _ rfl rfl rfl (by kernel_rfl) false (HI2.out _) ?_)
        refine (alive_c _).mono ?_
        rintro e W7 ⟨rfl, hb⟩
        have HS7 := Lib.hid (HS6.out.after hb)
        clear hb HS6
        go_wp2
        go_ret
        exact ⟨rfl, HS7.out.below⟩
    · rw [hw] at HI2
      obtain ⟨rfl, rfl, ho⟩ := hinv hw
      clear hinv
      by_cases hlt : p < n
      · have hlI : (0 : Int) < ((n - p : Nat) : Int) := by omega
        obtain ⟨v, q, y', f', hv⟩ : ∃ v q y' f', intR bs p 0 0 = (v, q, y', f') := ⟨_, _, _, _, rfl⟩
        have HV := Lib.hid hv
        have HO := Lib.hid ho
        have HI3 := Lib.hid (fun w' => show (Op.equalIn 10000 30 (.agg (fltA y' f')) (.agg (fltA 0 0))).run Try.prog w' = .ok (wellB y' f') w' by rw [eqFlt_run]; rfl)
        clear hv ho
        go_wp2_with fail
        refine (HLf.out _ (HS3.out.at_ 0 rfl)).mono ?_
        rintro e W4 ⟨rfl, hb⟩
        have HS4 := Lib.hid (HS3.out.after hb)
        clear hb HS3 HLf
        go_wp2_with fail
        refine (fault_c r A n c p 0 0 _ (HS4.out.at_ 0 rfl)).mono ?_
        rintro e W5 ⟨rfl, hb⟩
        have HS5 := Lib.hid (HS4.out.after hb)
        clear hb HS4
        go_wp2_with (refine wpList_eql (by kernel_rfl) 30 _ _ _ rfl rfl rfl (by kernel_rfl) true (HI2.out _) ?_)
        refine (rInt_c r A n c p 0 0 bs _ (HS5.out.rdIn 0 rfl HR.out hp (by have := HN.out.1; omega) HN.out.2) v q y' f' HV.out).mono ?_
        rintro e W6 ⟨rfl, hM⟩
        have HS6 := Lib.hid (HS5.out.call 0 rfl hM)
        clear hM HS5
        go_wp2_with fail
        refine (fault_c r A n c q y' f' _ (HS6.out.at_ 0 rfl)).mono ?_
        rintro e W7 ⟨rfl, hb⟩
        have HS7 := Lib.hid (HS6.out.after hb)
        clear hb HS6
        cases hw2 : wellB y' f'
        · rw [hw2] at HI3
          have HQ := Lib.hid (show q ≤ n by
            have h := HV.out
            obtain ⟨v1, q1, y1, f1, ht⟩ : ∃ v1 q1 y1 f1, pkR bs p 0 0 = (v1, q1, y1, f1) := ⟨_, _, _, _, rfl⟩
            unfold intR at h
            rw [ht] at h
            simp only at h
            split at h
            · rename_i hw1
              simp only [Prod.mk.injEq] at h
              obtain ⟨_, _, rfl, rfl⟩ := h
              rw [hw2] at hw1; cases hw1
            · simp only [Prod.mk.injEq] at h
              omega)
          go_wp2_with (refine wpList_eql (by kernel_rfl) 30 _ _ _ rfl rfl rfl (by kernel_rfl) false (HI3.out _) ?_)
          go_roundg 0
          case measure => rw [HK.out, if_pos (by decide)]; omega
          case rel => exact ⟨q, y', f', B, d, out, HQ.out, by rw [hw2]; rfl, fun h => (by rw [hw2] at h; cases h), HS7.out⟩
        · rw [hw2] at HI3
          obtain ⟨h1, h2, rfl, rfl, h3, h4⟩ := one_step (by rw [HL.out]; exact hp) HV.out hw2
          rw [HL.out] at h2
          obtain ⟨out2, hout2⟩ : ∃ out2, out2 = bs.take q := ⟨_, rfl⟩
          have HX := Lib.hid (show ∀ x ∈ [v], -9223372036854775808 ≤ x ∧ x ≤ 9223372036854775807 from fun x hx => by simp at hx; rw [hx]; exact h3)
          have HB2 := Lib.hid (show out ++ encL [v] = out2 by rw [encL_one, HO.out, h4, hout2])
          have HL2 := Lib.hid (show out.length + 10 * 1 ≤ 140737488355328 by rw [HO.out, List.length_take, HL.out]; have := HN.out.1; omega)
          have HO2 := Lib.hid hout2
          have HPQ := Lib.hid (And.intro h1 h2)
          clear h1 h2 h3 h4 hout2
          go_wp2_with (first
            | (refine wpList_eql (by kernel_rfl) 30 _ _ _ rfl rfl rfl (by kernel_rfl) true (HI3.out _) ?_)
            | (refine wpList_build_b rfl (some 26) rfl 3 1 #[.int .i64 v] (by kernel_rfl) ?_; intro g8 W8 hb hB hg; have HS8 := Lib.hid (HS7.out.new hb hB hg); clear hb hB hg HS7))
          refine (wInt_c g2 B d out _ 1 1 [v] _ (HS8.out.ok 1 _ rfl) (lit_int _ (HS8.out.at_ 2 rfl)) HX.out (fun _ a ha => by cases ha; exact fun h1 => HS8.out.apart 1 2 _ _ rfl rfl (by decide) _ h1 rfl) HL2.out).mono ?_
          rintro e W9 ⟨rfl, B9, d9, hM⟩
          rw [HB2.out] at hM
          have HS9 := Lib.hid (Ms.cut (l := [blkR r A n c q 0 0, .wr g2 B9 d9 out2]) (k := [.blk g8 3 _]) (HS8.out.call 1 rfl hM))
          clear hM HS8
          go_wp2_with fail
          go_roundg (n - q + 1)
          case measure => rw [HK.out, if_pos (by decide)]; have := HPQ.out; omega
          case rel => exact ⟨q, 0, 0, B9, d9, out2, HPQ.out.2, by rw [if_pos (by decide)], fun _ => ⟨rfl, rfl, HO2.out⟩, HS9.out⟩
      · have hlI : ((n - p : Nat) : Int) = 0 := by omega
        rw [hlI] at HLf
        clear hlI
        have hout : out = bs := by rw [ho, List.take_of_length_le (by rw [HL.out]; omega)]
        subst hout
        clear ho
        go_wp2_with fail
        refine (HLf.out _ (HS3.out.at_ 0 rfl)).mono ?_
        rintro e W4 ⟨rfl, hb⟩
        have HS4 := Lib.hid (HS3.out.after hb)
        clear hb HS3
        go_wp2_with fail
        refine (fault_c r A n c p 0 0 _ (HS4.out.at_ 0 rfl)).mono ?_
        rintro e W6 ⟨rfl, hb⟩
        have HS6 := Lib.hid (HS4.out.after hb)
        clear hb HS4
        go_wp2_with (refine wpList_neq (by kernel_rfl) 30 _ _ _ rfl rfl rfl (by kernel_rfl) true (HI2.out _) ?_)
        refine (wBytes_c g2 B d out _ (HS6.out.ok 1 _ rfl) (by rw [HL.out]; have := HN.out.1; omega)).mono ?_
        rintro e W7 ⟨A7, c7, rfl, hM⟩
        have HS7 := Lib.hid (HS6.out.made hM)
        clear hM HS6
        have HR1 := Lib.hid (rowB_read (HS7.out.ok 2 _ rfl)).1
        have HR2 := Lib.hid (HR.out.below HS7.out.below)
        go_wp2_with fail
        refine (same_c A7 _ c7 out A n c out _ HR1.out HR2.out).mono ?_
        rw [show decide (out = out) = true from decide_eq_true rfl]
        rintro e w' ⟨rfl, rfl⟩
        go_wp2_with fail
        refine (alive_c _).mono ?_
        rintro e W8 ⟨rfl, hb⟩
        have HS8 := Lib.hid (HS7.out.after hb)
        clear hb HS7
        go_wp2
        go_ret
        exact ⟨rfl, HS8.out.below⟩
end Go.Proofs.Ytphmaimgpolaoaa
