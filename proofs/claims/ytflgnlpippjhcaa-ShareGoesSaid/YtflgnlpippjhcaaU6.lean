/- Share: Factor. -/
import Derived.Test.YtflgnlpippjhcaaU5
set_option linter.unusedVariables false
set_option maxRecDepth 100000
namespace Go.Proofs.Ytflgnlpippjhcaa
open Go.RowKit Go.Sort Go.Maps

theorem add64_call (x y : Nat) (w : World) : (callFunc 35 #[.int .u64 (x : Nat), .int .u64 (y : Nat), .int .u64 0]).run Try.prog w = .ok (.value (.tuple #[.int .u64 (((x + y) % 18446744073709551616 : Nat) : Int), .int .u64 (((x + y) / 18446744073709551616 : Nat) : Int)])) w := by
  rw [run_callFunc_extern Try.func35 (by kernel_rfl) (by kernel_rfl) (by kernel_rfl) (e := add64Entry) (by kernel_rfl), run_add64 _ _ _ (by omega) (by omega) (by decide) (by decide)]
  simp only [Result.andThen]
  congr 4 <;> simp
theorem div_b (hi lo y : Nat) (hy : hi < y) (hlo : lo < 18446744073709551616) (hy2 : y < 18446744073709551616) (w : World) : Calls Try.prog 36 #[.int .u64 (hi : Nat), .int .u64 (lo : Nat), .int .u64 (y : Nat)] w fun e w' => (∃ r : Int, e = .returned (.tuple #[.int .u64 (((hi * 18446744073709551616 + lo) / y : Nat) : Int), .int .u64 r])) ∧ Below w.heap.size w w' :=
  (div_c hi lo y hy hlo hy2 w).mono fun e w' ⟨h, m, hm⟩ => ⟨h, hm ▸ below_drew m⟩
theorem fac_hi {U T : Nat} (hT : 1 ≤ T) (h : T ≤ U * 1000 / 18446744073709551616 + (U * 1000 % 18446744073709551616 + (T - 1)) / 18446744073709551616) : facQ U T = 1000 := by
  unfold facQ
  have h1 : T * 18446744073709551616 ≤ U * 1000 + T - 1 := by omega
  have h2 : 1000 ≤ (U * 1000 + T - 1) / T := (Nat.le_div_iff_mul_le hT).2 (by omega)
  have h3 : ((U : Int) * 1000 + (T : Int) - 1) / (T : Int) = (((U * 1000 + T - 1) / T : Nat) : Int) := by
    rw [show ((U : Int) * 1000 + (T : Int) - 1) = ((U * 1000 + T - 1 : Nat) : Int) by omega]
    simp
  rw [h3]
  omega
theorem fac_lo {U T HI LO : Nat} (hT : 1 ≤ T) (hH : HI = U * 1000 / 18446744073709551616 + (U * 1000 % 18446744073709551616 + (T - 1)) / 18446744073709551616) (hL : LO = (U * 1000 % 18446744073709551616 + (T - 1)) % 18446744073709551616) :
    facQ U T = min ((((HI * 18446744073709551616 + LO) / T : Nat) : Int)) 1000 := by
  unfold facQ
  have h1 : HI * 18446744073709551616 + LO = U * 1000 + T - 1 := by omega
  rw [h1]
  have h3 : ((U : Int) * 1000 + (T : Int) - 1) / (T : Int) = (((U * 1000 + T - 1) / T : Nat) : Int) := by
    rw [show ((U : Int) * 1000 + (T : Int) - 1) = ((U * 1000 + T - 1 : Nat) : Int) by omega]
    simp
  rw [h3]
theorem tot_in {half : Int} {L : Led} (h : LOk half L) (now : Int) : 0 ≤ totV half L now ∧ totV half L now ≤ 9223372036854775807 := by
  unfold totV
  split
  · rename_i hn
    have := tot_nonneg h hn.2
    rw [most_nonneg this]
    omega
  · omega
set_option maxHeartbeats 8000000 in
theorem fac_n (g b : Nat) (half : Int) (L : Led) (n : Nm) (now : Int) (w : World) (hR : LdR w g b half L) (hn : n.length ≤ maxLen) (hu : userE L n now = 1) : Calls Try.prog 18 #[.pointer (some ⟨g, 0, none⟩), str n, .int .i64 now] w fun e w' => e = .returned (.tuple #[.int .i64 0, .int .i64 1]) ∧ Below w.heap.size w w' := by
  have HNL := Lib.hid hn
  have HU := Lib.hid hu
  clear hn hu
  have HR := Lib.hid hR
  obtain ⟨ob, hob, hst⟩ := hR.start
  have HB := Lib.hid hR.blk
  have HO := Lib.hid hob
  have HOK := Lib.hid hR.ok
  have HST := Lib.hid hst
  clear hR hob hst
  go_enter Try.func18, Try.ntmps18
  have HS0 := Lib.hid (HST.out)
  clear HST
  go_wp2_with fail
  refine (used_n g b half L n now _ (HS0.out.ldR 0 1 rfl rfl HOK.out) HNL.out HU.out).mono ?_
  rintro e W1 ⟨rfl, hb⟩
  have HS1 := Lib.hid (HS0.out.after hb)
  clear hb HS0
  go_wp2_with fail
  go_ret2
  exact ⟨rfl, HS1.out.stillR HB.out HO.out⟩
set_option maxHeartbeats 8000000 in
theorem fac_z (g b : Nat) (half : Int) (L : Led) (n : Nm) (now : Int) (w : World) (hR : LdR w g b half L) (hn : n.length ≤ maxLen) (hu : userE L n now = 0) (hz : totV half L now = 0) : Calls Try.prog 18 #[.pointer (some ⟨g, 0, none⟩), str n, .int .i64 now] w fun e w' => e = .returned (.tuple #[.int .i64 1000, .int .i64 0]) ∧ Below w.heap.size w w' := by
  have HNL := Lib.hid hn
  have HU := Lib.hid hu
  have HT := Lib.hid (userE_zero.1 hu).1
  have HZ := Lib.hid hz
  clear hn hu hz
  have HR := Lib.hid hR
  obtain ⟨ob, hob, hst⟩ := hR.start
  have HB := Lib.hid hR.blk
  have HO := Lib.hid hob
  have HOK := Lib.hid hR.ok
  have HST := Lib.hid hst
  clear hR hob hst
  go_enter Try.func18, Try.ntmps18
  have HS0 := Lib.hid (HST.out)
  clear HST
  go_wp2_with fail
  refine (used_y g b half L n now _ (HS0.out.ldR 0 1 rfl rfl HOK.out) HNL.out HU.out).mono ?_
  rintro e W1 ⟨rfl, hb⟩
  have HS1 := Lib.hid (HS0.out.after hb)
  clear hb HS0
  go_wp2_with fail
  refine (tot_y g b half L now _ (HS1.out.ldR 0 1 rfl rfl HOK.out) HT.out).mono ?_
  rintro e W2 ⟨rfl, hb⟩
  have HS2 := Lib.hid (HS1.out.after hb)
  clear hb HS1
  have hz := HZ.out
  go_wp2_with fail
  go_ret2
  exact ⟨rfl, HS2.out.stillR HB.out HO.out⟩
set_option maxHeartbeats 8000000 in
theorem fac_h (g b : Nat) (half : Int) (L : Led) (n : Nm) (now : Int) (w : World) (hR : LdR w g b half L) (hn : n.length ≤ maxLen) (hu : userE L n now = 0) (U T : Nat) (hU : usedV half L n now = (U : Int)) (hT : totV half L now = (T : Int)) (h1 : 1 ≤ T) (hh : T ≤ U * 1000 / 18446744073709551616 + (U * 1000 % 18446744073709551616 + (T - 1)) / 18446744073709551616) : Calls Try.prog 18 #[.pointer (some ⟨g, 0, none⟩), str n, .int .i64 now] w fun e w' => e = .returned (.tuple #[.int .i64 0, .int .i64 0]) ∧ Below w.heap.size w w' := by
  have HNL := Lib.hid hn
  have HU := Lib.hid hu
  have HT := Lib.hid (userE_zero.1 hu).1
  have b1 := (hR.ok.used n now)
  have b2 := tot_in hR.ok now
  rw [hU] at b1
  rw [hT] at b2
  have HU1 := Lib.hid (show U ≤ 1152921504606846976 by omega)
  have HT1 := Lib.hid (show T ≤ 9223372036854775807 by omega)
  have HT0 := Lib.hid h1
  have HHH := Lib.hid hh
  have YU : ∀ W : World, LdR W g b half L → Calls Try.prog 16 #[.pointer (some ⟨g, 0, none⟩), str n, .int .i64 now] W fun e w' => e = .returned (.tuple #[.int .i64 (U : Int), .int .i64 0]) ∧ Below W.heap.size W w' := fun W h => by
    have := used_y g b half L n now W h HNL.out HU.out
    rwa [hU] at this
  have YT : ∀ W : World, LdR W g b half L → Calls Try.prog 20 #[.pointer (some ⟨g, 0, none⟩), .int .i64 now] W fun e w' => e = .returned (.tuple #[.int .i64 (T : Int), .int .i64 0]) ∧ Below W.heap.size W w' := fun W h => by
    have := tot_y g b half L now W h HT.out
    rwa [hT] at this
  clear hn hu hU hT h1 hh b1 b2
  have HR := Lib.hid hR
  obtain ⟨ob, hob, hst⟩ := hR.start
  have HB := Lib.hid hR.blk
  have HO := Lib.hid hob
  have HOK := Lib.hid hR.ok
  have HST := Lib.hid hst
  clear hR hob hst
  go_enter Try.func18, Try.ntmps18
  have HS0 := Lib.hid (HST.out)
  clear HST
  have tz : ¬ ((T : Nat) : Int) = 0 := by have := HT0.out; omega
  obtain ⟨M, hM⟩ : ∃ x : Nat, x = U * 1000 / 18446744073709551616 := ⟨_, rfl⟩
  obtain ⟨N, hN⟩ : ∃ x : Nat, x = U * 1000 % 18446744073709551616 := ⟨_, rfl⟩
  obtain ⟨D, hD⟩ : ∃ x : Nat, x = T - 1 := ⟨_, rfl⟩
  obtain ⟨S, hS⟩ : ∃ x : Nat, x = (N + D) % 18446744073709551616 := ⟨_, rfl⟩
  obtain ⟨C, hC⟩ : ∃ x : Nat, x = (N + D) / 18446744073709551616 := ⟨_, rfl⟩
  obtain ⟨I, hI⟩ : ∃ x : Nat, x = M + C := ⟨_, rfl⟩
  have AD : ∀ W : World, (callFunc 35 #[.int .u64 (N : Nat), .int .u64 (D : Nat), .int .u64 0]).run Try.prog W = .ok (.value (.tuple #[.int .u64 (S : Nat), .int .u64 (C : Nat)])) W := fun W => by rw [hS, hC]; exact add64_call N D W
  have MU : ∀ W : World, Calls Try.prog 34 #[.int .u64 (U : Nat), .int .u64 1000] W fun e w' => e = .returned (.tuple #[.int .u64 (M : Nat), .int .u64 (N : Nat)]) ∧ W = w' := fun W => by rw [hM, hN]; exact mul64_c U 1000 (by have := HU1.out; omega) (by decide) W
  have wU : IntKind.u64.wrap ((U : Nat) : Int) = ((U : Nat) : Int) := wrapN (by have := HU1.out; omega)
  have wT : IntKind.u64.wrap ((T : Nat) : Int) = ((T : Nat) : Int) := wrapN (by have := HT1.out; omega)
  have wS : IntKind.u64.wrap (((T : Nat) : Int) - 1) = ((D : Nat) : Int) := by rw [show ((T : Nat) : Int) - 1 = ((D : Nat) : Int) by have := HT0.out; omega]; exact wrapN (by have := HT1.out; omega)
  have wA : IntKind.u64.wrap (((M : Nat) : Int) + ((C : Nat) : Int)) = ((I : Nat) : Int) := by rw [show ((M : Nat) : Int) + ((C : Nat) : Int) = ((I : Nat) : Int) by omega]; exact wrapN (by have := HU1.out; have := HT1.out; omega)
  have HII := Lib.hid (show I = U * 1000 / 18446744073709551616 + (U * 1000 % 18446744073709551616 + (T - 1)) / 18446744073709551616 by rw [hI, hM, hC, hN, hD])
  have HSS := Lib.hid (show S = (U * 1000 % 18446744073709551616 + (T - 1)) % 18446744073709551616 by rw [hS, hN, hD])
  have cc : ((T : Nat) : Int) ≤ ((I : Nat) : Int) := by have := HHH.out; have := HII.out; omega
  clear hM hN hD hS hC hI
  go_wp2_with fail
  refine (YU _ (HS0.out.ldR 0 1 rfl rfl HOK.out)).mono ?_
  rintro e W1 ⟨rfl, hb⟩
  have HS1 := Lib.hid (HS0.out.after hb)
  clear hb HS0
  go_wp2_with fail
  refine (YT _ (HS1.out.ldR 0 1 rfl rfl HOK.out)).mono ?_
  rintro e W2 ⟨rfl, hb⟩
  have HS2 := Lib.hid (HS1.out.after hb)
  clear hb HS1
  go_wp2_with fail
  refine (MU _).mono ?_
  rintro e w' ⟨rfl, rfl⟩
  go_wp2_with fail
  go_ret2
  exact ⟨rfl, HS2.out.stillR HB.out HO.out⟩
set_option maxHeartbeats 8000000 in
theorem fac_l (g b : Nat) (half : Int) (L : Led) (n : Nm) (now : Int) (w : World) (hR : LdR w g b half L) (hn : n.length ≤ maxLen) (hu : userE L n now = 0) (U T : Nat) (hU : usedV half L n now = (U : Int)) (hT : totV half L now = (T : Int)) (h1 : 1 ≤ T) (hh : ¬ T ≤ U * 1000 / 18446744073709551616 + (U * 1000 % 18446744073709551616 + (T - 1)) / 18446744073709551616) : Calls Try.prog 18 #[.pointer (some ⟨g, 0, none⟩), str n, .int .i64 now] w fun e w' => e = .returned (.tuple #[.int .i64 (1000 - facQ U T), .int .i64 0]) ∧ Below w.heap.size w w' := by
  have HNL := Lib.hid hn
  have HU := Lib.hid hu
  have HT := Lib.hid (userE_zero.1 hu).1
  have b1 := (hR.ok.used n now)
  have b2 := tot_in hR.ok now
  rw [hU] at b1
  rw [hT] at b2
  have HU1 := Lib.hid (show U ≤ 1152921504606846976 by omega)
  have HT1 := Lib.hid (show T ≤ 9223372036854775807 by omega)
  have HT0 := Lib.hid h1
  have HHH := Lib.hid hh
  have YU : ∀ W : World, LdR W g b half L → Calls Try.prog 16 #[.pointer (some ⟨g, 0, none⟩), str n, .int .i64 now] W fun e w' => e = .returned (.tuple #[.int .i64 (U : Int), .int .i64 0]) ∧ Below W.heap.size W w' := fun W h => by
    have := used_y g b half L n now W h HNL.out HU.out
    rwa [hU] at this
  have YT : ∀ W : World, LdR W g b half L → Calls Try.prog 20 #[.pointer (some ⟨g, 0, none⟩), .int .i64 now] W fun e w' => e = .returned (.tuple #[.int .i64 (T : Int), .int .i64 0]) ∧ Below W.heap.size W w' := fun W h => by
    have := tot_y g b half L now W h HT.out
    rwa [hT] at this
  clear hn hu hU hT h1 hh b1 b2
  have HR := Lib.hid hR
  obtain ⟨ob, hob, hst⟩ := hR.start
  have HB := Lib.hid hR.blk
  have HO := Lib.hid hob
  have HOK := Lib.hid hR.ok
  have HST := Lib.hid hst
  clear hR hob hst
  go_enter Try.func18, Try.ntmps18
  have HS0 := Lib.hid (HST.out)
  clear HST
  have tz : ¬ ((T : Nat) : Int) = 0 := by have := HT0.out; omega
  obtain ⟨M, hM⟩ : ∃ x : Nat, x = U * 1000 / 18446744073709551616 := ⟨_, rfl⟩
  obtain ⟨N, hN⟩ : ∃ x : Nat, x = U * 1000 % 18446744073709551616 := ⟨_, rfl⟩
  obtain ⟨D, hD⟩ : ∃ x : Nat, x = T - 1 := ⟨_, rfl⟩
  obtain ⟨S, hS⟩ : ∃ x : Nat, x = (N + D) % 18446744073709551616 := ⟨_, rfl⟩
  obtain ⟨C, hC⟩ : ∃ x : Nat, x = (N + D) / 18446744073709551616 := ⟨_, rfl⟩
  obtain ⟨I, hI⟩ : ∃ x : Nat, x = M + C := ⟨_, rfl⟩
  have AD : ∀ W : World, (callFunc 35 #[.int .u64 (N : Nat), .int .u64 (D : Nat), .int .u64 0]).run Try.prog W = .ok (.value (.tuple #[.int .u64 (S : Nat), .int .u64 (C : Nat)])) W := fun W => by rw [hS, hC]; exact add64_call N D W
  have MU : ∀ W : World, Calls Try.prog 34 #[.int .u64 (U : Nat), .int .u64 1000] W fun e w' => e = .returned (.tuple #[.int .u64 (M : Nat), .int .u64 (N : Nat)]) ∧ W = w' := fun W => by rw [hM, hN]; exact mul64_c U 1000 (by have := HU1.out; omega) (by decide) W
  have wU : IntKind.u64.wrap ((U : Nat) : Int) = ((U : Nat) : Int) := wrapN (by have := HU1.out; omega)
  have wT : IntKind.u64.wrap ((T : Nat) : Int) = ((T : Nat) : Int) := wrapN (by have := HT1.out; omega)
  have wS : IntKind.u64.wrap (((T : Nat) : Int) - 1) = ((D : Nat) : Int) := by rw [show ((T : Nat) : Int) - 1 = ((D : Nat) : Int) by have := HT0.out; omega]; exact wrapN (by have := HT1.out; omega)
  have wA : IntKind.u64.wrap (((M : Nat) : Int) + ((C : Nat) : Int)) = ((I : Nat) : Int) := by rw [show ((M : Nat) : Int) + ((C : Nat) : Int) = ((I : Nat) : Int) by omega]; exact wrapN (by have := HU1.out; have := HT1.out; omega)
  have HII := Lib.hid (show I = U * 1000 / 18446744073709551616 + (U * 1000 % 18446744073709551616 + (T - 1)) / 18446744073709551616 by rw [hI, hM, hC, hN, hD])
  have HSS := Lib.hid (show S = (U * 1000 % 18446744073709551616 + (T - 1)) % 18446744073709551616 by rw [hS, hN, hD])
  have cc : ¬ ((T : Nat) : Int) ≤ ((I : Nat) : Int) := by have := HHH.out; have := HII.out; omega
  clear hM hN hD hS hC hI
  obtain ⟨QQ, hQ⟩ : ∃ q : Int, q = (((I * 18446744073709551616 + S) / T : Nat) : Int) := ⟨_, rfl⟩
  have q0 : 0 ≤ QQ := by rw [hQ]; exact Int.natCast_nonneg _
  have DV : ∀ W : World, Calls Try.prog 36 #[.int .u64 (I : Nat), .int .u64 (S : Nat), .int .u64 (T : Nat)] W fun e w' => (∃ r : Int, e = .returned (.tuple #[.int .u64 QQ, .int .u64 r])) ∧ Below W.heap.size W w' := fun W => by rw [hQ]; exact div_b I S T (by have := HHH.out; have := HII.out; omega) (by have := HSS.out; omega) (by have := HT1.out; omega) W
  have HF := Lib.hid (show facQ U T = min QQ 1000 by rw [hQ]; exact fac_lo HT0.out HII.out HSS.out)
  have wM : IntKind.i64.wrap (min QQ 1000) = min QQ 1000 := wrap_small (by omega) (by omega)
  have wR : IntKind.i64.wrap (1000 - min QQ 1000) = 1000 - min QQ 1000 := wrap_small (by omega) (by omega)
  clear q0 hQ
  go_wp2_with fail
  refine (YU _ (HS0.out.ldR 0 1 rfl rfl HOK.out)).mono ?_
  rintro e W1 ⟨rfl, hb⟩
  have HS1 := Lib.hid (HS0.out.after hb)
  clear hb HS0
  go_wp2_with fail
  refine (YT _ (HS1.out.ldR 0 1 rfl rfl HOK.out)).mono ?_
  rintro e W2 ⟨rfl, hb⟩
  have HS2 := Lib.hid (HS1.out.after hb)
  clear hb HS1
  go_wp2_with fail
  refine (MU _).mono ?_
  rintro e w' ⟨rfl, rfl⟩
  go_wp2_with fail
  refine (DV _).mono ?_
  rintro e W3 ⟨⟨r, rfl⟩, hb⟩
  have HS3 := Lib.hid (HS2.out.after hb)
  clear hb HS2
  go_wp2_with fail
  go_ret2
  exact ⟨by rw [HF.out]; rfl, HS3.out.stillR HB.out HO.out⟩
theorem fac_c (g b : Nat) (half : Int) (L : Led) (n : Nm) (now : Int) (w : World) (hR : LdR w g b half L) (hn : n.length ≤ maxLen) : Calls Try.prog 18 #[.pointer (some ⟨g, 0, none⟩), str n, .int .i64 now] w fun e w' => e = .returned (.tuple #[.int .i64 (facV half L n now), .int .i64 (userE L n now)]) ∧ Below w.heap.size w w' := by
  unfold facV
  rcases userE_cases L n now with hu | hu
  · rw [if_pos hu, hu]
    by_cases hz : totV half L now = 0
    · rw [if_pos hz]
      exact fac_z g b half L n now w hR hn hu hz
    · rw [if_neg hz]
      have h1 := tot_pos hR.ok (userE_zero.1 hu).1 hz
      obtain ⟨U, hU⟩ := Int.eq_ofNat_of_zero_le (hR.ok.used n now).1
      obtain ⟨T, hT⟩ := Int.eq_ofNat_of_zero_le (tot_in hR.ok now).1
      have h2 : 1 ≤ T := by omega
      rw [hU, hT]
      by_cases hh : T ≤ U * 1000 / 18446744073709551616 + (U * 1000 % 18446744073709551616 + (T - 1)) / 18446744073709551616
      · have := fac_h g b half L n now w hR hn hu U T hU hT h2 hh
        rwa [fac_hi h2 hh]
      · exact fac_l g b half L n now w hR hn hu U T hU hT h2 hh
  · rw [if_neg (by omega), hu]
    exact fac_n g b half L n now w hR hn hu
end Go.Proofs.Ytflgnlpippjhcaa
