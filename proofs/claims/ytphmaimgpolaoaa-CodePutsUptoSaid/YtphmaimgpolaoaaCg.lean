/- Code: the document's Int, Text, Nodes. -/
import Derived.Test.YtphmaimgpolaoaaCc
set_option linter.unusedVariables false
namespace Go.Proofs.Ytphmaimgpolaoaa
open Go.RowKit Go.Sort

set_option maxRecDepth 100000 in
set_option maxHeartbeats 8000000 in
theorem refInt_c (A : Option Addr) (m c : Nat) (bs : List UInt8) (n : Int) (w : World) (hR : ReadsB w A m bs) (hA : A = none → c = 0) (hn : -9223372036854775808 ≤ n ∧ n ≤ 9223372036854775807) (hlen : m + 10 ≤ 140737488355328) :
    Calls Try.prog 18 #[.slice A m c, .int .i64 n] w (NewB w (bs ++ encI n)) := by
  have HS0 := Lib.hid (Ms.nil w noB).nilRow
  have HR := Lib.hid hR
  have HA := Lib.hid hA
  have HN := Lib.hid (show ([] : List UInt8).length + m ≤ 140737488355328 by simp; omega)
  have HL := Lib.hid (show bs.length + (encI n).length ≤ 140737488355328 by rw [hR.1]; have := (encI_len hn.1 hn.2).2; omega)
  have HE := Lib.hid (show encI n = Lib.uvarint (Lib.zigzag n) from rfl)
  have hU := Lib.zigzag_lt hn.1 hn.2
  obtain ⟨U0, hU0⟩ : ∃ U, U = Lib.zigzag n := ⟨_, rfl⟩
  have h1 : 0 ≤ n → n * 2 = (U0 : Int) := fun h => by rw [hU0]; unfold Lib.zigzag; rw [if_pos h]; omega
  have h2 : n < 0 → -(n + 1) * 2 + 1 = (U0 : Int) := fun h => by rw [hU0]; unfold Lib.zigzag; rw [if_neg (by omega)]; omega
  rw [← hU0] at HE hU
  have HU := Lib.hid hU
  obtain ⟨hn0, hn1⟩ := hn
  clear hU0 hR hA hlen hU
  obtain ⟨out, hout⟩ : ∃ out, out = bs ++ encI n := ⟨_, rfl⟩
  rw [← hout]
  have HO := Lib.hid hout
  clear hout
  go_enter Try.func18, Try.ntmps18
  by_cases hneg : n < 0
  · have HU2 := Lib.hid (h2 hneg)
    clear h1 h2
    go_wp2_with (refine append_read HS0.out 0 rfl (.const (.slice none 0 0)) (.tmp 18) rfl _ [] bs A m c rfl rfl rfl HR.out HA.out HN.out bs rfl ?_; intro A1 c1 W1 hM; have HS1 := Lib.hid hM; clear hM HS0)
    rw [HU2.out]
    clear HU2
    go_loopw [5, 6] (fun u o wr => ∃ (U : Nat) (A2 : Option Addr) (c2 : Nat) (done : List UInt8), u = .int .u64 U ∧ o = slB A2 c2 done ∧ U < 18446744073709551616 ∧ done ++ Lib.uvarint U = out ∧ Ms w noB [rowB A2 c2 done] wr) (fun u _ _ => (intOf u).toNat)
    case atStart => exact ⟨U0, A1, c1, bs, rfl, rfl, HU.out, by rw [HO.out, HE.out], HS1.out⟩
    case round =>
      obtain ⟨U, A2, c2, done, rfl, rfl, hU, hd, hS⟩ := hrel
      clear HS1
      have HS2 := Lib.hid hS
      have HD := Lib.hid hd
      have HB := Lib.hid (show done.length + 1 ≤ 140737488355328 by
        have h1 := congrArg List.length hd
        rw [HO.out, List.length_append, List.length_append] at h1
        have := HL.out
        have := Lib.uvarint_pos U
        omega)
      clear hS hd
      by_cases hlt2 : U < 128
      · have hltI : ¬ (128 : Int) ≤ (U : Int) := by omega
        have HC := Lib.hid (lit_u8 (x := U) (by omega))
        have HF := Lib.hid (show done ++ [U.toUInt8] = out by rw [← HD.out, Lib.uvarint_small hlt2])
        go_wp2_with (first
          | (refine wpList_build_b rfl (some 34) rfl 5 1 #[.int .u8 (U : Nat)] (by kernel_rfl) ?_; intro g3 W3 hb3 hB3 hg3; have HS3 := Lib.hid (HS2.out.new hb3 hB3 hg3); clear hb3 hB3 hg3 HS2)
          | (refine append_bytes HS3.out 0 1 rfl (.tmp 31) (.tmp 34) rfl _ done [U.toUInt8] _ _ rfl rfl rfl rfl HC.out HB.out out HF.out ?_; intro A4 c4 W4 hM; have HS4 := Lib.hid hM; clear hM HS3))
        go_ret
        exact ⟨A4, c4, rfl, Ms.cut (l := [rowB A4 c4 out]) (k := [.blk g3 5 #[.int .u8 (U : Nat)]]) HS4.out⟩
      · have hltI : (128 : Int) ≤ (U : Int) := by omega
        obtain ⟨Y, hY⟩ : ∃ Y : Nat, Y = U % 128 + 128 := ⟨_, rfl⟩
        have HC := Lib.hid (lit_u8 (x := Y) (by omega))
        obtain ⟨nx, hnx⟩ : ∃ nx, nx = done ++ [Y.toUInt8] := ⟨_, rfl⟩
        have HF := Lib.hid hnx.symm
        have HG := Lib.hid (show nx ++ Lib.uvarint (U / 128) = out by rw [hnx, hY, ← HD.out, u64_div7 (U := U) (Nat.le_of_not_lt hlt2), List.append_assoc]; rfl)
        have hYI : 128 + (U : Int) % 128 = (Y : Int) := by omega
        have hY256 : (Y : Int) < 256 := by omega
        clear hnx hY
        go_wp2_with (first
          | (refine wpList_build_b rfl (some 27) rfl 5 1 #[.int .u8 (Y : Nat)] (by kernel_rfl) ?_; intro g3 W3 hb3 hB3 hg3; have HS3 := Lib.hid (HS2.out.new hb3 hB3 hg3); clear hb3 hB3 hg3 HS2)
          | (refine append_bytes HS3.out 0 1 rfl (.tmp 22) (.tmp 27) rfl _ done [Y.toUInt8] _ _ rfl rfl rfl rfl HC.out HB.out nx HF.out ?_; intro A4 c4 W4 hM; have HS4 := Lib.hid hM; clear hM HS3))
        refine ⟨⟨U / 128, A4, c4, nx, rfl, rfl, by omega, HG.out, Ms.cut (l := [rowB A4 c4 nx]) (k := [.blk g3 5 #[.int .u8 (Y : Nat)]]) HS4.out⟩, by simp [intOf]; omega⟩
  · have HU2 := Lib.hid (h1 (by omega))
    clear h1 h2
    go_wp2_with (refine append_read HS0.out 0 rfl (.const (.slice none 0 0)) (.tmp 18) rfl _ [] bs A m c rfl rfl rfl HR.out HA.out HN.out bs rfl ?_; intro A1 c1 W1 hM; have HS1 := Lib.hid hM; clear hM HS0)
    rw [HU2.out]
    clear HU2
    go_loopw [5, 6] (fun u o wr => ∃ (U : Nat) (A2 : Option Addr) (c2 : Nat) (done : List UInt8), u = .int .u64 U ∧ o = slB A2 c2 done ∧ U < 18446744073709551616 ∧ done ++ Lib.uvarint U = out ∧ Ms w noB [rowB A2 c2 done] wr) (fun u _ _ => (intOf u).toNat)
    case atStart => exact ⟨U0, A1, c1, bs, rfl, rfl, HU.out, by rw [HO.out, HE.out], HS1.out⟩
    case round =>
      obtain ⟨U, A2, c2, done, rfl, rfl, hU, hd, hS⟩ := hrel
      clear HS1
      have HS2 := Lib.hid hS
      have HD := Lib.hid hd
      have HB := Lib.hid (show done.length + 1 ≤ 140737488355328 by
        have h1 := congrArg List.length hd
        rw [HO.out, List.length_append, List.length_append] at h1
        have := HL.out
        have := Lib.uvarint_pos U
        omega)
      clear hS hd
      by_cases hlt2 : U < 128
      · have hltI : ¬ (128 : Int) ≤ (U : Int) := by omega
        have HC := Lib.hid (lit_u8 (x := U) (by omega))
        have HF := Lib.hid (show done ++ [U.toUInt8] = out by rw [← HD.out, Lib.uvarint_small hlt2])
        go_wp2_with (first
          | (refine wpList_build_b rfl (some 34) rfl 5 1 #[.int .u8 (U : Nat)] (by kernel_rfl) ?_; intro g3 W3 hb3 hB3 hg3; have HS3 := Lib.hid (HS2.out.new hb3 hB3 hg3); clear hb3 hB3 hg3 HS2)
          | (refine append_bytes HS3.out 0 1 rfl (.tmp 31) (.tmp 34) rfl _ done [U.toUInt8] _ _ rfl rfl rfl rfl HC.out HB.out out HF.out ?_; intro A4 c4 W4 hM; have HS4 := Lib.hid hM; clear hM HS3))
        go_ret
        exact ⟨A4, c4, rfl, Ms.cut (l := [rowB A4 c4 out]) (k := [.blk g3 5 #[.int .u8 (U : Nat)]]) HS4.out⟩
      · have hltI : (128 : Int) ≤ (U : Int) := by omega
        obtain ⟨Y, hY⟩ : ∃ Y : Nat, Y = U % 128 + 128 := ⟨_, rfl⟩
        have HC := Lib.hid (lit_u8 (x := Y) (by omega))
        obtain ⟨nx, hnx⟩ : ∃ nx, nx = done ++ [Y.toUInt8] := ⟨_, rfl⟩
        have HF := Lib.hid hnx.symm
        have HG := Lib.hid (show nx ++ Lib.uvarint (U / 128) = out by rw [hnx, hY, ← HD.out, u64_div7 (U := U) (Nat.le_of_not_lt hlt2), List.append_assoc]; rfl)
        have hYI : 128 + (U : Int) % 128 = (Y : Int) := by omega
        have hY256 : (Y : Int) < 256 := by omega
        clear hnx hY
        go_wp2_with (first
          | (refine wpList_build_b rfl (some 27) rfl 5 1 #[.int .u8 (Y : Nat)] (by kernel_rfl) ?_; intro g3 W3 hb3 hB3 hg3; have HS3 := Lib.hid (HS2.out.new hb3 hB3 hg3); clear hb3 hB3 hg3 HS2)
          | (refine append_bytes HS3.out 0 1 rfl (.tmp 22) (.tmp 27) rfl _ done [Y.toUInt8] _ _ rfl rfl rfl rfl HC.out HB.out nx HF.out ?_; intro A4 c4 W4 hM; have HS4 := Lib.hid hM; clear hM HS3))
        refine ⟨⟨U / 128, A4, c4, nx, rfl, rfl, by omega, HG.out, Ms.cut (l := [rowB A4 c4 nx]) (k := [.blk g3 5 #[.int .u8 (Y : Nat)]]) HS4.out⟩, by simp [intOf]; omega⟩
def W1c (x0 x1 x2 x3 : Nat) (w : World) (g k x : Nat) : Prop := w.cell? ⟨g, k, none⟩ = some (.int .u64 (x : Nat))
theorem words_at (x0 x1 x2 x3 k : Nat) (h : k < 4) : (#[.int .u64 (x0 : Nat), .int .u64 (x1 : Nat), .int .u64 (x2 : Nat), .int .u64 (x3 : Nat)] : Array Value)[k]? = some (.int .u64 (wdAt x0 x1 x2 x3 k : Nat)) := by
  have h : k = 0 ∨ k = 1 ∨ k = 2 ∨ k = 3 := by omega
  rcases h with rfl | rfl | rfl | rfl <;> rfl
set_option maxRecDepth 100000 in
set_option maxHeartbeats 8000000 in
theorem refText_c (A : Option Addr) (m c : Nat) (bs : List UInt8) (s : ByteArray) (w : World) (hR : ReadsB w A m bs) (hA : A = none → c = 0) (hlen : m + 10 + s.size ≤ 140737488355328) :
    Calls Try.prog 19 #[.slice A m c, .string s] w (NewB w (bs ++ encT s)) := by
  have HC := Lib.hid (refInt_c A m c bs ((s.size : Nat) : Int) w hR hA (by omega) (by omega))
  obtain ⟨mid, hmid⟩ : ∃ mid, mid = bs ++ encI ((s.size : Nat) : Int) := ⟨_, rfl⟩
  have hml : mid.length ≤ m + 10 := by rw [hmid, List.length_append, hR.1]; have := (encI_len (n := ((s.size : Nat) : Int)) (by omega) (by omega)).2; omega
  have HL := Lib.hid (show mid.length + s.size ≤ 140737488355328 by omega)
  obtain ⟨out, hout⟩ : ∃ out, out = bs ++ encT s := ⟨_, rfl⟩
  have HO := Lib.hid (show mid ++ s.data.toList = out by rw [hmid, hout]; unfold encT; rw [List.append_assoc])
  rw [← hout]
  rw [← hmid] at HC
  have hsI : (s.size : Int) ≤ 140737488355328 := by omega
  clear hR hA hlen hmid hout hml
  go_enter Try.func19, Try.ntmps19
  go_wp2_with fail
  refine HC.out.mono ?_
  rintro e W1 ⟨A1, c1, rfl, hM⟩
  have HS1 := Lib.hid hM
  clear hM HC
  go_wp2_with (refine append_text HS1.out 0 rfl (.tmp 8) (.tmp 9) rfl _ mid s rfl rfl rfl HL.out out HO.out ?_; intro A2 c2 W2 hM; have HS2 := Lib.hid hM; clear hM HS1)
  go_ret
  exact ⟨A2, c2, rfl, HS2.out⟩
set_option maxRecDepth 100000 in
set_option maxHeartbeats 8000000 in
theorem refNodes_c (A : Option Addr) (m c : Nat) (bs : List UInt8) (x0 x1 x2 x3 : Nat) (w : World) (hR : ReadsB w A m bs) (hA : A = none → c = 0) (hb : ∀ k, wdAt x0 x1 x2 x3 k < 18446744073709551616) (hlen : m + 32 ≤ 140737488355328) :
    Calls Try.prog 20 #[.slice A m c, ndV x0 x1 x2 x3] w (NewB w (bs ++ encN x0 x1 x2 x3)) := by
  have HS0 := Lib.hid (Ms.nil w noB)
  have HR := Lib.hid hR
  have HA := Lib.hid hA
  have HN := Lib.hid (show ([] : List UInt8).length + m ≤ 140737488355328 by simp; omega)
  have HL := Lib.hid (show bs.length + 32 ≤ 140737488355328 by rw [hR.1]; omega)
  have HBd := Lib.hid hb
  clear hR hA hlen hb
  go_enter Try.func20, Try.ntmps20
  go_wp2_with (first
    | (refine wpList_alloc_b rfl (some 3) rfl 41 #[.int .u64 (x0 : Nat), .int .u64 (x1 : Nat), .int .u64 (x2 : Nat), .int .u64 (x3 : Nat)] (by kernel_rfl) ?_; intro g1 W1 hb hB hg; have HR1 := Lib.hid (HR.out.below hb); have HS1 := Lib.hid (HS0.out.new hb hB hg).nilRow; clear hb hB hg HS0 HR)
    | (refine append_read HS1.out 1 rfl (.const (.slice none 0 0)) (.tmp 9) rfl _ [] bs A m c rfl rfl rfl HR1.out HA.out HN.out bs rfl ?_; intro A2 c2 W2 hM; have HS2 := Lib.hid hM; clear hM HS1))
  go_loopw [5, 6] (fun o i wr => ∃ (k : Nat) (A' : Option Addr) (c' : Nat), k ≤ 4 ∧ i = .int .i64 k ∧ o = slB A' c' (bs ++ encNk x0 x1 x2 x3 k) ∧ Ms w noB [.blk g1 41 #[.int .u64 (x0 : Nat), .int .u64 (x1 : Nat), .int .u64 (x2 : Nat), .int .u64 (x3 : Nat)], rowB A' c' (bs ++ encNk x0 x1 x2 x3 k)] wr) (fun _ i _ => 4 - (intOf i).toNat)
  case atStart => exact ⟨0, A2, c2, by omega, rfl, by simp [encNk], by simpa [encNk] using HS2.out⟩
  case round =>
    obtain ⟨k, A', c', hk, rfl, rfl, hS⟩ := hrel
    clear HS2
    have HS1 := Lib.hid hS
    clear hS
    obtain ⟨out, hout⟩ : ∃ out, out = bs ++ encNk x0 x1 x2 x3 k := ⟨_, rfl⟩
    rw [← hout] at HS1 ⊢
    have HO := Lib.hid hout
    clear hout
    by_cases hlt : k < 4
    · have hltI : (k : Int) < 4 := by omega
      obtain ⟨x, hxe⟩ : ∃ x, x = wdAt x0 x1 x2 x3 k := ⟨_, rfl⟩
      have hx64 := HBd.out k
      rw [← hxe] at hx64
      obtain ⟨r1, r2, r3⟩ := HS1.out.rules 0 rfl
      have hcell : W1c x0 x1 x2 x3 wr g1 k x := by unfold W1c; rw [r1 k, hxe]; exact words_at x0 x1 x2 x3 k hlt
      unfold W1c at hcell
      have HT := Lib.hid (show bs ++ encNk x0 x1 x2 x3 (k + 1) = out ++ encWk x 8 by rw [HO.out, encNk_succ, ← hxe]; simp [encW, encWk])
      have HLo := Lib.hid (show out.length + 8 ≤ 140737488355328 by rw [HO.out, List.length_append, encNk_len]; have := HL.out; omega)
      clear r1 r2 r3 hxe
      go_wp2_with fail
      clear hcell
      go_loopw [5, 7, 8] (fun o y i wr2 => ∃ (j : Nat) (A2 : Option Addr) (c2 : Nat), j ≤ 8 ∧ i = .int .i64 j ∧ y = .int .u64 (x / 256 ^ j : Nat) ∧ o = slB A2 c2 (out ++ encWk x j) ∧ Ms w noB [.blk g1 41 #[.int .u64 (x0 : Nat), .int .u64 (x1 : Nat), .int .u64 (x2 : Nat), .int .u64 (x3 : Nat)], rowB A2 c2 (out ++ encWk x j)] wr2) (fun _ _ i _ => 8 - (intOf i).toNat)
      case atStart => exact ⟨0, A', c', by omega, rfl, by simp, by simp [encWk], by simpa [encWk] using HS1.out⟩
      case round =>
        obtain ⟨j, A3, c3, hj, rfl, rfl, rfl, hS⟩ := hrel
        clear HS1
        have HS3 := Lib.hid hS
        clear hS
        obtain ⟨done, hdone⟩ : ∃ done, done = out ++ encWk x j := ⟨_, rfl⟩
        rw [← hdone] at HS3 ⊢
        have HDo := Lib.hid hdone
        clear hdone
        by_cases hlt2 : j < 8
        · have hltJ : (j : Int) < 8 := by omega
          obtain ⟨Z, hZ⟩ : ∃ Z, Z = x / 256 ^ j := ⟨_, rfl⟩
          have hZ64 : Z < 18446744073709551616 := by rw [hZ]; exact Nat.lt_of_le_of_lt (Nat.div_le_self _ _) hx64
          have HZn := Lib.hid (show Z / 256 = x / 256 ^ (j + 1) by rw [hZ, Nat.div_div_eq_div_mul, Nat.pow_succ])
          obtain ⟨Y, hY⟩ : ∃ Y : Nat, Y = Z % 256 := ⟨_, rfl⟩
          have HC := Lib.hid (lit_u8 (x := Y) (by omega))
          have HF := Lib.hid (show done ++ [Y.toUInt8] = out ++ encWk x (j + 1) by rw [HDo.out, encWk_succ, hY, hZ, List.append_assoc])
          obtain ⟨nx, hnx⟩ : ∃ nx, nx = out ++ encWk x (j + 1) := ⟨_, rfl⟩
          rw [← hnx] at HF
          have HG := Lib.hid hnx
          have HB := Lib.hid (show done.length + [Y.toUInt8].length ≤ 140737488355328 by rw [HDo.out, List.length_append, encWk_len]; have := HLo.out; simp; omega)
          have hYI : (Z : Int) % 256 = (Y : Int) := by omega
          have hY256 : (Y : Int) < 256 := by omega
          rw [← hZ]
          clear hnx hY hZ
          go_wp2_with (first
            | (refine wpList_build_b rfl (some 26) rfl 5 1 #[.int .u8 (Y : Nat)] (by kernel_rfl) ?_; intro g3 W3 hb3 hB3 hg3; have HS4 := Lib.hid (HS3.out.new hb3 hB3 hg3); clear hb3 hB3 hg3 HS3)
            | (refine append_bytes HS4.out 1 2 rfl (.tmp 22) (.tmp 26) rfl _ done [Y.toUInt8] _ _ rfl rfl rfl rfl HC.out HB.out nx HF.out ?_; intro A4 c4 W4 hM; have HS5 := Lib.hid hM; clear hM HS4))
          refine ⟨⟨j + 1, A4, c4, by omega, by go_num, ?_, ?_, ?_⟩, by simp [intOf]; omega⟩
          · rw [← HZn.out]; go_num
          · rw [← HG.out]
          · rw [← HG.out]
            exact Ms.cut (l := [.blk g1 41 #[.int .u64 (x0 : Nat), .int .u64 (x1 : Nat), .int .u64 (x2 : Nat), .int .u64 (x3 : Nat)], rowB A4 c4 nx]) (k := [.blk g3 5 #[.int .u8 (Y : Nat)]]) HS5.out
        · obtain rfl : j = 8 := by omega
          rw [← HT.out] at HDo
          go_wp2_with fail
          refine ⟨⟨k + 1, A3, c3, by omega, by go_num, by rw [← HDo.out], by rw [← HDo.out]; exact HS3.out⟩, by simp [intOf]; omega⟩
    · obtain rfl : k = 4 := by omega
      rw [encNk_four] at HO
      go_wp2_with fail
      go_ret
      rw [← HO.out]
      exact ⟨A', c', rfl, (HS1.out.pick (fun _ => 1) [rowB A' c' out] (fun i o hi => by
        cases i with
        | zero => simpa using hi
        | succ i => simp at hi) (fun i j hi hj _ => by simp at hi hj; omega))⟩
end Go.Proofs.Ytphmaimgpolaoaa
