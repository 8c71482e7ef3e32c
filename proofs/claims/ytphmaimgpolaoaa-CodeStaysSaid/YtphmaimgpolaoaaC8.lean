/- Code: the reader's peek. -/
import Derived.Test.YtphmaimgpolaoaaC7
import Derived.Laws.BitsLemmas
set_option linter.unusedVariables false
namespace Go.Proofs.Ytphmaimgpolaoaa
open Go.RowKit Go.Sort

/-- What comes next: the number, the place behind it, and the fault. -/
def pkR (bs : List UInt8) (p : Nat) (y f : Int) : Int × Nat × Int × Int :=
  if wellB y f = false then (0, 0, y, f) else
  match decF 0 0 (bs.drop p) with
  | (0, u, k) => (unzig u, p + k, y, f)
  | (1, _, k) => (0, 0, 3, ((p + k : Nat) : Int))
  | _ => (0, 0, 4, (bs.length : Int))
theorem or_low_aux {j a : Nat} (hj : j ≤ 64) (ha : a < 2 ^ j) : (a : Int) < 2 ^ 64 := by
  have h1 := Nat.pow_le_pow_right (show 0 < 2 by decide) hj
  have h3 : a < 2 ^ 64 := Nat.lt_of_lt_of_le ha h1
  exact_mod_cast h3
theorem add_add' (a : Addr) (i j : Nat) : (a.add i).add j = a.add (i + j) := by
  unfold Addr.add
  by_cases hi : i = 0
  · subst hi; simp
  · by_cases hj : j = 0
    · subst hj; simp
    · rw [if_neg hi, if_neg hj, if_neg (by omega), Nat.add_assoc]
theorem or_low (j x : Nat) (a : Nat) (hj : j ≤ 64) (ha : a < 2 ^ j) (hx : x * 2 ^ j < 18446744073709551616) : bits .or .u64 (a : Int) ((x * 2 ^ j : Nat) : Int) = ((a + x * 2 ^ j : Nat) : Int) := by
  rw [bits_join_low .u64 64 (by decide) wraps_u64 j (a : Int) ((x * 2 ^ j : Nat) : Int) (by omega) (by exact_mod_cast ha) (or_low_aux hj ha) (by omega) (by
    have h : ((2 : Int) ^ j) = ((2 ^ j : Nat) : Int) := by norm_cast
    rw [h, ← Int.natCast_emod, Nat.mul_mod_left]; rfl) (by omega)]
  omega
theorem unz (u : Nat) (h : u < 18446744073709551616) : bits .xor .i64 ((u : Int) / 2) (-((u : Int) % 2)) = unzig u := by
  unfold unzig
  split
  · rename_i h1
    rw [show -((u : Int) % 2) = -1 by omega]
    have := Lib.i64_not (u / 2) (by omega)
    have e : bits .xor .i64 ((u : Int) / 2) (-1) = bits .xor .i64 (-1) ((u / 2 : Nat) : Int) := by
      show IntKind.i64.wrap _ = IntKind.i64.wrap _
      rw [BitVec.xor_comm]
      rfl
    rw [e, this]
  · rename_i h1
    rw [show -((u : Int) % 2) = 0 by omega]
    show IntKind.i64.wrap ((BitVec.ofInt 64 ((u : Int) / 2) ^^^ BitVec.ofInt 64 0).toNat : Int) = _
    rw [show BitVec.ofInt 64 0 = 0#64 by rfl, BitVec.xor_zero]
    have h2 : (BitVec.ofInt 64 ((u : Int) / 2)).toNat = u / 2 := by
      rw [show (u : Int) / 2 = ((u / 2 : Nat) : Int) by omega, BitVec.ofInt_natCast, BitVec.toNat_ofNat]
      exact Nat.mod_eq_of_lt (by omega)
    rw [h2, IntKind.wrap_i64]
    omega
theorem decF_step {k acc : Nat} {l : List UInt8} (hk : k < l.length) : decF k acc (l.drop k) = (if (k = 9 ∧ 1 < (l.getD k 0).toNat) ∨ (0 < k ∧ (l.getD k 0).toNat = 0) then (1, 0, k) else if (l.getD k 0).toNat < 128 then (0, acc + (l.getD k 0).toNat * 2 ^ (7 * k), k + 1) else decF (k + 1) (acc + (l.getD k 0).toNat % 128 * 2 ^ (7 * k)) (l.drop (k + 1))) := by
  rw [List.drop_eq_getElem_cons hk]
  simp only [decF, List.getD_eq_getElem?_getD, List.getElem?_eq_getElem hk, Option.getD_some]
theorem sl_cell {w : World} {ad : Addr} {n : Nat} {bs : List UInt8} {p j : Nat} (h : ReadsB w (some ad) n bs) (hj : p + j < n) : w.cell? ((ad.add p).add j) = some (.int .u8 ((bs.drop p).getD j 0).toNat) := by
  obtain ⟨ad', e, hc⟩ := h.2.2 (by omega)
  cases e
  have h2 := hc (p + j) hj
  rw [add_add', h2, List.getD_eq_getElem?_getD, List.getD_eq_getElem?_getD, List.getElem?_drop]
theorem ret_ii {a b c d : Int} (h1 : a = b) (h2 : c = d) : Ending.returned (.tuple #[.int .i64 a, .int .i64 c]) = .returned (.tuple #[.int .i64 b, .int .i64 d]) := by rw [h1, h2]
def hacc9 (acc k : Nat) : Prop := acc < 9223372036854775808
theorem hacc9_of {acc k : Nat} (h : acc < 2 ^ (7 * k)) (hk : k ≤ 9) : hacc9 acc k := by
  have h1 : (2 : Nat) ^ (7 * k) ≤ 2 ^ 63 := Nat.pow_le_pow_right (by decide) (by omega)
  have h2 : (2 : Nat) ^ 63 = 9223372036854775808 := by decide
  unfold hacc9; omega
theorem sh_eq {M T k : Nat} (hT : T = M * 2 ^ (7 * k)) (h : T < 18446744073709551616) : IntKind.u64.wrap ((M : Int) * 2 ^ (7 * (k : Int)).toNat) = (T : Int) := by
  have e1 : ((2 : Int) ^ (7 * (k : Int)).toNat) = ((2 ^ (7 * k) : Nat) : Int) := by
    rw [show (7 * (k : Int)).toNat = 7 * k by omega]
    norm_cast
  rw [e1, ← Int.natCast_mul, ← hT, IntKind.wrap_u64]
  omega
theorem acc_bound9 {M T acc acc2 k : Nat} (hk : k = 9) (hT : T = M * 2 ^ (7 * k)) (h2 : acc2 = acc + T) (hM : M ≤ 1) (ha : acc < 2 ^ (7 * k)) : T < 18446744073709551616 ∧ acc2 < 18446744073709551616 := by
  subst hk
  have e : (2 : Nat) ^ (7 * 9) = 9223372036854775808 := by decide
  rw [e] at hT ha
  omega
theorem acc_bound {M T acc acc2 k : Nat} (hT : T = M * 2 ^ (7 * k)) (h2 : acc2 = acc + T) (hk : k ≤ 8) (hM : M < 128) (ha : acc < 2 ^ (7 * k)) : T < 18446744073709551616 ∧ acc2 < 18446744073709551616 := by
  have h1 : (2 : Nat) ^ (7 * k) ≤ 2 ^ 56 := Nat.pow_le_pow_right (by decide) (by omega)
  have h3 : (2 : Nat) ^ 56 = 72057594037927936 := by decide
  have h4 : M * 2 ^ (7 * k) ≤ 127 * 72057594037927936 := Nat.mul_le_mul (by omega) (by omega)
  omega
theorem pk_bad {bs : List UInt8} {p k : Nat} {y f : Int} (hw : wellB y f = true) (h : decF 0 0 (bs.drop p) = (1, 0, k)) : pkR bs p y f = (0, 0, 3, ((p + k : Nat) : Int)) := by
  unfold pkR; rw [hw, h]; rfl
theorem pk_ok {bs : List UInt8} {p k u : Nat} {y f : Int} (hw : wellB y f = true) (h : decF 0 0 (bs.drop p) = (0, u, k)) : pkR bs p y f = (unzig u, p + k, y, f) := by
  unfold pkR; rw [hw, h]; rfl
theorem pk_end {bs : List UInt8} {p : Nat} {y f : Int} (hw : wellB y f = true) (h : decF 0 0 (bs.drop p) = (2, 0, 0)) : pkR bs p y f = (0, 0, 4, (bs.length : Int)) := by
  unfold pkR; rw [hw, h]; rfl
/-- The end of a walk of peek. -/
theorem pk_post {w W : World} {r n c p q q' : Nat} {A : Option Addr} {v v' y f y' f' : Int} {x : Int × Nat × Int × Int} {e : Ending} (h1 : x = (v, q, y, f)) (h2 : x = (v', q', y', f')) (he : e = .returned (.tuple #[.int .i64 v', .int .i64 (q' : Nat)])) (hM : Ms w (fun k => k = r) [blkR r A n c p y' f'] W) :
    RdPost w r A n c (.tuple #[.int .i64 v, .int .i64 (q : Nat)]) p y f e W := by
  rw [h1] at h2
  simp only [Prod.mk.injEq] at h2
  obtain ⟨rfl, rfl, rfl, rfl⟩ := h2
  exact ⟨he, hM⟩
set_option maxRecDepth 100000 in
set_option maxHeartbeats 4000000 in
theorem peek_no (r : Nat) (A : Option Addr) (n c p : Nat) (y f : Int) (w : World) (hB : Blk w r 58 (rdC A n c p y f)) (hw : wellB y f = false) :
    Calls Try.prog 25 #[.pointer (some ⟨r, 0, none⟩)] w (RdPost w r A n c (.tuple #[.int .i64 0, .int .i64 0]) p y f) := by
  have HS := Lib.hid (Ms.start (o := blkR r A n c p y f) hB)
  have HW := Lib.hid (well_c r A n c p y f w hB)
  clear hB
  go_enter Try.func25, Try.ntmps25
  go_wp2_with fail
  refine HW.out.mono ?_
  rintro e w' ⟨rfl, rfl⟩
  go_wp2
  go_ret2
  exact ⟨rfl, HS.out⟩
set_option maxRecDepth 100000 in
set_option maxHeartbeats 4000000 in
theorem peek_yes (r : Nat) (A : Option Addr) (n c p : Nat) (y f : Int) (bs : List UInt8) (w : World) (hB : Blk w r 58 (rdC A n c p y f)) (hw : wellB y f = true) (hR : ReadsB w A n bs) (hp : p ≤ n) (hn : n ≤ 140737488355328) (hc : n ≤ c) (hA : 0 < n → ∀ a, A = some a → a.block ≠ r)
    (v : Int) (q : Nat) (y' f' : Int) (hv : pkR bs p y f = (v, q, y', f')) :
    Calls Try.prog 25 #[.pointer (some ⟨r, 0, none⟩)] w (RdPost w r A n c (.tuple #[.int .i64 v, .int .i64 (q : Nat)]) p y' f') := by
  have HS0 := Lib.hid (Ms.start (o := blkR r A n c p y f) hB)
  have HW := Lib.hid (well_c r A n c p y f w hB)
  have HV := Lib.hid hv
  have HR := Lib.hid hR
  have HL := Lib.hid hR.1
  have hnI : (n : Int) ≤ 140737488355328 := by omega
  have hpI : (p : Int) ≤ (n : Int) := by omega
  have hcI : (n : Int) ≤ (c : Int) := by omega
  clear hB hv hR hA
  go_enter Try.func25, Try.ntmps25
  go_wp2_with fail
  refine HW.out.mono ?_
  rintro e w' ⟨rfl, rfl⟩
  clear HW
  obtain ⟨r1, r2, r3⟩ := HS0.out.rules 0 rfl
  go_wp2_with fail
  go_quiet (fail)
  have hDD : ∀ ad, A = some ad → p < n → (if c = p then A else Option.map (fun x => x.add p) A) = some (ad.add p) := fun ad h1 h2 => by
    rw [if_neg (by omega), h1]; rfl
  obtain ⟨D, hDe⟩ : ∃ D, D = (if c = p then A else Option.map (fun x => x.add p) A) := ⟨_, rfl⟩
  rw [← hDe] at hDD ⊢
  have HDD := Lib.hid hDD
  clear hDe hDD r1 r2 r3
  have HS1 := Lib.hid (HS0.out.drewN nq)
  have HR1 := Lib.hid (HR.out.below (below_drewN (Below.refl w.heap.size w) nq))
  clear HS0
  obtain ⟨W1, hW1⟩ : ∃ W1, W1 = w.drewN nq := ⟨_, rfl⟩
  rw [← hW1] at HS1 HR1
  rw [← hW1]
  clear hW1 HR
  obtain ⟨L, hLe⟩ : ∃ L, L = bs.drop p := ⟨_, rfl⟩
  have HLl := Lib.hid (show L.length = n - p by rw [hLe, List.length_drop, HL.out])
  have HLe := Lib.hid hLe
  clear hLe
  go_wp2_with fail
  go_loop [4, 20] (fun u i => ∃ k acc : Nat, k ≤ n - p ∧ k ≤ 9 ∧ i = .int .i64 k ∧ u = .int .u64 acc ∧ acc < 2 ^ (7 * k) ∧ decF 0 0 L = decF k acc (L.drop k)) (fun _ i => n - p - (intOf i).toNat)
  case atStart => exact ⟨0, 0, by omega, by omega, rfl, rfl, by simp, by simp⟩
  case round =>
    obtain ⟨k, acc, hk, hk9, rfl, rfl, hacc, hd⟩ := hrel
    have HA := Lib.hid hacc
    have HD := Lib.hid hd
    clear hacc hd
    have hk9I : (k : Int) ≤ 9 := by omega
    obtain ⟨r1, r2, r3⟩ := HS1.out.rules 0 rfl
    by_cases hlt : k < n - p
    · have HST := Lib.hid (HD.out.trans (decF_step (k := k) (acc := acc) (l := L) (by rw [HLl.out]; exact hlt)))
      obtain ⟨ad, hAe, hx⟩ := HR1.out.2.2 (by omega)
      clear hx
      have hcell := sl_cell (p := p) (j := k) (hAe ▸ HR1.out) (by omega)
      have hDe := HDD.out ad hAe (by omega)
      subst hDe
      rw [← HLe.out] at hcell
      obtain ⟨b, hbe⟩ : ∃ b, b = (L.getD k 0).toNat := ⟨_, rfl⟩
      have hb256 : b < 256 := hbe ▸ UInt8.toNat_lt _
      rw [← hbe] at hcell HST
      clear hbe
      have hltI : (k : Int) < (n - p : Nat) := by omega
      have HH : Hid (hacc9 acc k) := Lib.hid (hacc9_of HA.out hk9)
      obtain ⟨M, hM⟩ : ∃ M : Nat, M = b % 128 := ⟨_, rfl⟩
      have h127 : bits .and .u8 (b : Int) 127 = (M : Int) := by rw [u8_and127 _ (by omega) (by omega)]; omega
      have E1 := Lib.hid (fun h : (k = 9 ∧ 1 < b) ∨ (0 < k ∧ b = 0) => HST.out.trans (if_pos h))
      have E2 := Lib.hid (fun (h : ¬ ((k = 9 ∧ 1 < b) ∨ (0 < k ∧ b = 0))) (h2 : b < 128) => (HST.out.trans (if_neg h)).trans (if_pos h2))
      have E3 := Lib.hid (fun (h : ¬ ((k = 9 ∧ 1 < b) ∨ (0 < k ∧ b = 0))) (h2 : ¬ b < 128) => (HST.out.trans (if_neg h)).trans (if_neg h2))
      clear HST
      by_cases c9 : k = 9
      · have F1 := Lib.hid (fun h : 1 < b => E1.out (.inl ⟨c9, h⟩))
        have F2 := Lib.hid (fun h : b = 0 => E1.out (.inr ⟨by omega, h⟩))
        have F3 := Lib.hid (fun (h : ¬ 1 < b) (h2 : ¬ b = 0) => E2.out (by omega) (by omega))
        clear E1 E2 E3
        subst c9
        have hcell9 : W1.cell? ⟨(ad.add p).block, (ad.add p).off + 9, none⟩ = some (.int .u8 (b : Int)) := hcell
        have hlt9 : (9 : Int) < (n - p : Nat) := by omega
        clear hltI hk9I hcell
        by_cases c1 : 1 < b
        · have d1 : (1 : Int) < (b : Int) := by omega
          go_wp2_with fail
          refine (wrong_c r A n c p y f 3 ((p : Int) + 9) _ (HS1.out.at_ 0 rfl) hw).mono ?_
          rintro e W5 ⟨rfl, hM⟩
          have HS5 := Lib.hid (HS1.out.call 0 rfl hM)
          clear hM HS1
          go_wp2
          go_ret2
          exact pk_post HV.out (by rw [pk_bad (k := 9) hw (by rw [← HLe.out]; exact F1.out c1)]; rfl) rfl HS5.out
        · have d1 : ¬ (1 : Int) < (b : Int) := by omega
          by_cases cb : b = 0
          · have db : ((b : Int) == 0) = true := by simp; omega
            go_wp2_with fail
            refine (wrong_c r A n c p y f 3 ((p : Int) + 9) _ (HS1.out.at_ 0 rfl) hw).mono ?_
            rintro e W5 ⟨rfl, hM⟩
            have HS5 := Lib.hid (HS1.out.call 0 rfl hM)
            clear hM HS1
            go_wp2
            go_ret2
            exact pk_post HV.out (by rw [pk_bad (k := 9) hw (by rw [← HLe.out]; exact F2.out cb)]; rfl) rfl HS5.out
          · skip
            have db : ((b : Int) == 0) = false := by simp; omega
            obtain ⟨T, hT⟩ : ∃ T : Nat, T = M * 2 ^ (7 * 9) := ⟨_, rfl⟩
            obtain ⟨acc2, hacc2⟩ : ∃ acc2 : Nat, acc2 = acc + T := ⟨_, rfl⟩
            have hTB : T < 18446744073709551616 ∧ acc2 < 18446744073709551616 := acc_bound9 rfl hT hacc2 (by omega) HA.out
            have hMb : (M : Int) < 128 := by omega
            have hsh : IntKind.u64.wrap ((M : Int) * 9223372036854775808) = (T : Int) := sh_eq (k := 9) hT hTB.1
            have hor : bits .or .u64 (acc : Int) (T : Int) = (acc2 : Int) := by rw [hacc2, hT]; exact or_low (7 * 9) M acc (by omega) HA.out (by rw [← hT]; exact hTB.1)
            have hun := unz acc2 hTB.2
            have hac0 : (acc2 : Int) < 18446744073709551616 := by omega
            have hand := Lib.u64_and1 (acc2 : Int) (by omega) hac0
            have HT := Lib.hid (And.intro hT hacc2)
            have HM := Lib.hid hM
            clear hT hacc2 hTB hM
            have d128 : (b : Int) < 128 := by omega
            go_wp2_with fail
            go_quiet (fail)
            go_wp2
            go_ret2
            exact pk_post HV.out (pk_ok hw ((congrArg (decF 0 0) HLe.out.symm).trans ((F3.out c1 cb).trans (by rw [HT.out.2, HT.out.1, HM.out, Nat.mod_eq_of_lt (show b < 128 by omega)])))) (ret_ii rfl (by omega)) (HS1.out.drewN _)
      · have d9 : ((k : Int) == 9) = false := by simp; omega
        obtain ⟨T, hT⟩ : ∃ T : Nat, T = M * 2 ^ (7 * k) := ⟨_, rfl⟩
        obtain ⟨acc2, hacc2⟩ : ∃ acc2 : Nat, acc2 = acc + T := ⟨_, rfl⟩
        have hTB : T < 18446744073709551616 ∧ acc2 < 18446744073709551616 := acc_bound hT hacc2 (by omega) (by omega) HA.out
        have hMb : (M : Int) < 128 := by omega
        have hsh : IntKind.u64.wrap ((M : Int) * 2 ^ (7 * k)) = (T : Int) := by have h := sh_eq hT hTB.1; rwa [show (7 * (k : Int)).toNat = 7 * k by omega] at h
        have hor : bits .or .u64 (acc : Int) (T : Int) = (acc2 : Int) := by rw [hacc2, hT]; exact or_low (7 * k) M acc (by omega) HA.out (by rw [← hT]; exact hTB.1)
        have hun := unz acc2 hTB.2
        have hac0 : (acc2 : Int) < 18446744073709551616 := by omega
        have hand := Lib.u64_and1 (acc2 : Int) (by omega) hac0
        have HT := Lib.hid (And.intro hT hacc2)
        have HM := Lib.hid hM
        clear hT hacc2 hTB hM
        by_cases c0 : 0 < k
        · have d0 : (0 : Int) < (k : Int) := by omega
          by_cases cb : b = 0
          · have db : ((b : Int) == 0) = true := by simp; omega
            go_wp2_with fail
            refine (wrong_c r A n c p y f 3 ((p : Int) + (k : Int)) _ (HS1.out.at_ 0 rfl) hw).mono ?_
            rintro e W5 ⟨rfl, hM⟩
            have HS5 := Lib.hid (HS1.out.call 0 rfl hM)
            clear hM HS1
            go_wp2
            go_ret2
            exact pk_post HV.out (by rw [pk_bad (k := k) hw (by rw [← HLe.out]; exact E1.out (by omega))]; rfl) rfl HS5.out
          · skip
            have db : ((b : Int) == 0) = false := by simp; omega
            by_cases c128 : b < 128
            · have d128 : (b : Int) < 128 := by omega
              go_wp2_with fail
              go_quiet (fail)
              go_wp2
              go_ret2
              exact pk_post HV.out (pk_ok hw ((congrArg (decF 0 0) HLe.out.symm).trans ((E2.out (by omega) c128).trans (by rw [HT.out.2, HT.out.1, HM.out, Nat.mod_eq_of_lt (show b < 128 by omega)])))) (ret_ii rfl (by omega)) (HS1.out.drewN _)
            · have d128 : ¬ (b : Int) < 128 := by omega
              go_wp2_with fail
              exact ⟨⟨k + 1, acc2, by omega, by omega, by go_num, rfl, by rw [HT.out.2, HT.out.1]; exact decF_acc HA.out M (by have := HM.out; omega), by rw [HT.out.2, HT.out.1, HM.out]; exact E3.out (by omega) c128⟩, by simp [intOf]; omega⟩
        · have d0 : ¬ (0 : Int) < (k : Int) := by omega
          by_cases c128 : b < 128
          · have d128 : (b : Int) < 128 := by omega
            go_wp2_with fail
            go_quiet (fail)
            go_wp2
            go_ret2
            exact pk_post HV.out (pk_ok hw ((congrArg (decF 0 0) HLe.out.symm).trans ((E2.out (by omega) c128).trans (by rw [HT.out.2, HT.out.1, HM.out, Nat.mod_eq_of_lt (show b < 128 by omega)])))) (ret_ii rfl (by omega)) (HS1.out.drewN _)
          · have d128 : ¬ (b : Int) < 128 := by omega
            go_wp2_with fail
            exact ⟨⟨k + 1, acc2, by omega, by omega, by go_num, rfl, by rw [HT.out.2, HT.out.1]; exact decF_acc HA.out M (by have := HM.out; omega), by rw [HT.out.2, HT.out.1, HM.out]; exact E3.out (by omega) c128⟩, by simp [intOf]; omega⟩
    · have HE := Lib.hid (show decF 0 0 L = (2, 0, 0) by rw [HD.out, List.drop_eq_nil_of_le (by rw [HLl.out]; omega)]; rfl)
      go_wp2_with fail
      refine (wrong_c r A n c p y f 4 (n : Int) _ (HS1.out.at_ 0 rfl) hw).mono ?_
      rintro e W5 ⟨rfl, hM⟩
      have HS5 := Lib.hid (HS1.out.call 0 rfl hM)
      clear hM HS1
      go_wp2
      go_ret2
      exact pk_post HV.out (by rw [pk_end hw (by rw [← HLe.out]; exact HE.out), HL.out]) rfl HS5.out
end Go.Proofs.Ytphmaimgpolaoaa
