/- Share: Save. -/
import Derived.Test.YtflgnlpippjhcaaUc
import Derived.Test.YtflgnlpippjhcaaUh
set_option linter.unusedVariables false
set_option maxRecDepth 100000
namespace Go.Proofs.Ytflgnlpippjhcaa
open Go.RowKit Go.Sort Go.Maps

/-! ### the bytes of a ledger -/
def recB (p : Nm × Ac) : List UInt8 := (encI p.1.length ++ p.1) ++ encL [p.2.has, p.2.at_]
def outB (L : Led) (k : Nat) : List UInt8 := encI L.length ++ (L.take k).flatMap recB
def saveB (L : Led) : List UInt8 := encI L.length ++ L.flatMap recB
theorem outB_zero (L : Led) : outB L 0 = encI L.length := by simp [outB]
theorem outB_all (L : Led) : outB L L.length = saveB L := by simp [outB, saveB]
theorem outB_step {L : Led} {k : Nat} {p : Nm × Ac} (h : L[k]? = some p) : outB L (k + 1) = outB L k ++ recB p := by
  obtain ⟨hk, rfl⟩ := List.getElem?_eq_some_iff.1 h
  unfold outB
  rw [List.take_succ_eq_append_getElem hk, List.flatMap_append, ← List.append_assoc]
  simp
theorem encI_le {n : Int} (h0 : 0 ≤ n) (h1 : n ≤ 1152921504606846976) : (encI n).length ≤ 10 := (encI_len (by omega) (by omega)).2
theorem recB_len {half : Int} {L : Led} (h : LOk half L) {p : Nm × Ac} (hp : p ∈ L) : (recB p).length ≤ 46 := by
  have h1 := (h.nm p hp).2
  have h2 := h.ac p hp
  have h3 := encI_le (n := (p.1.length : Int)) (by omega) (by omega)
  have h4 := encI_le h2.h0 h2.h1
  have h5 := encI_le h2.t0 (by have := h2.t1; omega)
  unfold recB
  simp only [List.length_append, encL, List.flatMap_cons, List.flatMap_nil, List.length_nil]
  omega
theorem flat_le {l : Led} (h : ∀ p ∈ l, (recB p).length ≤ 46) : (l.flatMap recB).length ≤ 46 * l.length := by
  induction l with
  | nil => simp
  | cons x r ih =>
    rw [List.flatMap_cons, List.length_append, List.length_cons]
    have := ih fun p hp => h p (List.mem_cons_of_mem _ hp)
    have := h x (List.mem_cons_self ..)
    omega
theorem outB_len {half : Int} {L : Led} (h : LOk half L) (k : Nat) : (outB L k).length ≤ 50000 := by
  have h1 := flat_le (l := L.take k) (fun p hp => recB_len h (List.mem_of_mem_take hp))
  have h2 := h.len
  have h3 := encI_le (n := (L.length : Int)) (by omega) (by omega)
  unfold outB
  rw [List.length_append]
  rw [List.length_take] at h1
  omega
theorem saveB_len {half : Int} {L : Led} (h : LOk half L) : (saveB L).length ≤ 50000 := by rw [← outB_all]; exact outB_len h _
theorem encT_nm (n : Nm) : encTs [⟨n.toArray⟩] = encI n.length ++ n := by
  rw [encTs_one]
  unfold encT
  rw [str_size]
/-! ### memory -/
theorem lit_int2 (x y : Int) {w : World} {g : Nat} (h : Blk w g 3 #[.int .i64 x, .int .i64 y]) : ReadsI w (some ⟨g, 0, none⟩) 2 [x, y] :=
  ⟨rfl, by omega, fun _ => ⟨_, rfl, fun j hj => by
    rcases (show j = 0 ∨ j = 1 by omega) with e | e
    all_goals
      subst e
      rw [add_plain, h.cell]
      rfl⟩⟩
/-- What a reader of a ledger made. -/
theorem Ms.takeR {w W : World} {g b : Nat} {half : Int} {L : Led} {ob : Obj} {K : List Own} {o : Own} (h : Ms w (exR g b) (.blk g lgT (lgA half b) :: .mx b ob L :: K) W) (hg : Blk w g lgT (lgA half b)) (hb : w.heap[b]? = some ob) (i : Nat) (hi : K[i]? = some o) : Ms w noB [o] W where
  ok j a hj := by
    cases j with
    | zero => simp at hj; subst hj; exact h.ok (i + 2) _ hi
    | succ j => simp at hj
  lo j a hj k hk := by
    cases j with
    | succ j => simp at hj
    | zero =>
      simp at hj; subst hj
      rcases h.lo (i + 2) _ hi k hk with h1 | h1 | h1
      · exact .inl h1
      · exact absurd hk (h.apart 0 (i + 2) _ _ rfl hi (by omega) k h1)
      · exact absurd hk (h.apart 1 (i + 2) _ _ rfl hi (by omega) k h1)
  apart j m a c hj hm hne k hk hk' := by
    cases j with
    | succ j => simp at hj
    | zero => cases m with
      | zero => exact hne rfl
      | succ m => simp at hm
  turn := ((Ms.nil w noB).after (h.stillR hg hb)).turn
theorem nm_entry {half : Int} {L : Led} (h : LOk half L) {k : Nat} {u : Nm} (hu : (names L)[k]? = some u) : ∃ c : Ac, L[k]? = some (u, c) ∧ acc L u = c := by
  rw [List.getElem?_map] at hu
  cases hp : L[k]? with
  | none => rw [hp] at hu; cases hu
  | some p =>
    rw [hp] at hu
    obtain ⟨m, c⟩ := p
    have e : m = u := by simpa using hu
    subst e
    refine ⟨c, rfl, ?_⟩
    unfold acc
    rw [look_of_mem h.ris (List.mem_of_getElem? hp)]
    rfl
set_option maxHeartbeats 16000000 in
theorem save_c (g b : Nat) (half : Int) (L : Led) (w : World) (hR : LdR w g b half L) : Calls Try.prog 25 #[.pointer (some ⟨g, 0, none⟩)] w (NewB w (saveB L)) := by
  have HR := Lib.hid hR
  obtain ⟨ob, hob, hst⟩ := hR.start
  have HB := Lib.hid hR.blk
  have HO := Lib.hid hob
  have HOK := Lib.hid hR.ok
  have HST := Lib.hid hst
  clear hR hob hst
  go_enter Try.func25, Try.ntmps25
  have HS0 := Lib.hid (HST.out)
  clear HST
  have HB0 := Lib.hid (show ∀ x ∈ [(L.length : Int)], -9223372036854775808 ≤ x ∧ x ≤ 9223372036854775807 from fun x hx => by simp at hx; rw [hx]; have := HOK.out.len; omega)
  have HO0 := Lib.hid (show [] ++ encL [(L.length : Int)] = outB L 0 by rw [outB_zero, encL_one]; rfl)
  go_wp2_with fail
  refine (ok_c g b half L _ (HS0.out.ldR 0 1 rfl rfl HOK.out)).mono ?_
  rintro e W1 ⟨rfl, hb⟩
  have HS1 := Lib.hid (HS0.out.after hb)
  clear hb HS0
  go_wp2_with (first
    | (have hq := HS1; clear hq; (with_reducible refine atAlloc ?_); refine wpList_alloc_b rfl (some 3) rfl 86 #[.slice none 0 0] (by kernel_rfl) ?_; intro g2 W2 hb hB hg; have HS2 := Lib.hid (HS1.out.wrNew hb hB hg); clear hb hB hg HS1; obtain ⟨r0a, r0b, r0c⟩ := HS2.out.rules 0 rfl)
    | (have hq := HS2; clear hq; refine wpList_lenMp (HS2.out.ok 1 _ rfl).2 (by kernel_rfl) _ 54 Try.underlying54 rfl rfl L.length rfl ?_)
    | (have hq := HS2; clear hq; (with_reducible refine atBuild ?_); refine wpList_build_b rfl (some 15) rfl 3 1 (#[.int .i64 (L.length : Nat)]) (by kernel_rfl) ?_; intro g3 W3 hb hB hg; have HS3 := Lib.hid (HS2.out.new hb hB hg); clear hb hB hg HS2; clear r0a r0b r0c))
  refine (wInt_c g2 none 0 [] _ 1 1 [(L.length : Int)] _ (HS3.out.ok 2 _ rfl) (lit_int _ (HS3.out.at_ 3 rfl)) HB0.out (fun _ a ha => by cases ha; exact fun h1 => HS3.out.apart 2 3 _ _ rfl rfl (by decide) _ h1 rfl) (by simp)).mono ?_
  rintro e W4 ⟨rfl, A4, c4, hM⟩
  rw [HO0.out] at hM
  have HS4 := Lib.hid (HS3.out.call 2 rfl hM)
  clear hM HS3
  go_wp2_with fail
  refine (users_c g b half L _ (HS4.out.ldR 0 1 rfl rfl HOK.out)).mono ?_
  rintro e W5 ⟨A2, c2, rfl, hM⟩
  have HS5 := Lib.hid (HS4.out.made hM)
  clear hM HS4
  go_wp2_with fail
  go_loopw [20] (fun k wr => ∃ (kk : Nat) (A' : Option Addr) (c' : Nat), kk ≤ L.length ∧ k = .int .i64 (kk : Nat) ∧ Hid (Ms w (exR g b) [(.blk g lgT (lgA half b)), .mx b ob L, .wr g2 A' c' (outB L kk), (.blk g3 3 #[.int .i64 (L.length : Nat)]), nmR A2 c2 (names L)] wr)) (fun k _ => L.length - (intOf k).toNat)
  case atStart => exact ⟨0, _, _, by omega, rfl, HS5⟩
  case round =>
    obtain ⟨k2, A4, c4, hkm, rfl, HS6⟩ := hrel
    have hLI : (L.length : Int) ≤ 1024 := by have := HOK.out.len; omega
    have hkI : (k2 : Int) ≤ (L.length : Int) := by omega
    by_cases hlt : k2 < L.length
    · have hltI : (k2 : Int) < (L.length : Int) := by omega
      obtain ⟨ad, u, hAe, hu, hc⟩ := nm_at (nmR_read (HS6.out.ok 4 _ rfl)) hlt
      subst hAe
      obtain ⟨c, hp, hca⟩ := nm_entry HOK.out hu
      have HAC := Lib.hid hca
      have HMEM := Lib.hid (List.mem_of_getElem? hp)
      have HST := Lib.hid (outB_step hp)
      have HNL := Lib.hid (show u.length ≤ maxLen by have := (HOK.out.nm _ HMEM.out).2; simp only at this; simp only [maxLen]; omega)
      have HLEN := Lib.hid (outB_len HOK.out k2)
      have HREC := Lib.hid (recB_len HOK.out HMEM.out)
      obtain ⟨b1, hb1⟩ : ∃ q, q = outB L k2 ++ encTs [⟨u.toArray⟩] := ⟨_, rfl⟩
      have HB1 := Lib.hid hb1
      have HB1L := Lib.hid (show b1.length ≤ 50100 by rw [hb1, encT_nm, List.length_append]; have h1 := HLEN.out; have h2 : ((encI u.length ++ u) ++ encL [c.has, c.at_]).length ≤ 46 := HREC.out; rw [List.length_append] at h2; omega)
      have HXL := Lib.hid (show (outB L k2).length + (encTs [⟨u.toArray⟩]).length ≤ 140737488355000 by have := HB1L.out; rw [hb1, List.length_append] at this; omega)
      have HB2 := Lib.hid (show b1 ++ encL [c.has, c.at_] = outB L (k2 + 1) by rw [HST.out, hb1, encT_nm]; unfold recB; simp only [List.append_assoc])
      have HXX := Lib.hid (show ∀ x ∈ [c.has, c.at_], -9223372036854775808 ≤ x ∧ x ≤ 9223372036854775807 from fun x hx => by have := HOK.out.ac _ HMEM.out; have a0 := this.h0; have a1 := this.h1; have a2 := this.t0; have a3 := this.t1; simp only at a0 a1 a2 a3; simp at hx; rcases hx with rfl | rfl <;> omega)
      clear hu hp hca hb1
      obtain ⟨r0a, r0b, r0c⟩ := HS6.out.rules 0 rfl
      go_wp2_with (first
        | (have hq := HS6; clear hq; refine wpList_look1Mp (HS6.out.ok 1 _ rfl).2 (by kernel_rfl) _ _ 54 Try.underlying54 rfl u rfl rfl HNL.out c HAC.out ?_)
        | (have hq := HS6; clear hq; (with_reducible refine atAlloc ?_); refine wpList_alloc_b rfl (some 6) rfl 66 (#[.int .i64 0, .int .i64 0]) (by kernel_rfl) ?_; intro g7 W7 hb hB hg; have HS7 := Lib.hid (HS6.out.new hb hB hg); clear hb hB hg HS6; clear r0a r0b r0c)
        | (have hq := HS7; clear hq; (with_reducible refine atStore ?_); refine wpList_store_at rfl 66 _ _ rfl (HS7.out.at_ 5 rfl) (acV c) rfl rfl (by kernel_rfl) (Nat.le_of_ble_eq_true rfl) (by kernel_rfl) ?_; intro W8 hB hP; have HS8 := Lib.hid (HS7.out.put 5 rfl (new := (acA c)) hB hP); clear hB hP HS7)
        | (have hq := HS8; clear hq; (with_reducible refine atBuild ?_); refine wpList_build_b rfl (some 31) rfl 9 1 (#[str u]) (by kernel_rfl) ?_; intro g9 W9 hb hB hg; have HS9 := Lib.hid (HS8.out.new hb hB hg); clear hb hB hg HS8))
      refine (wText_c g2 A4 c4 (outB L k2) _ 1 1 [⟨u.toArray⟩] _ (HS9.out.ok 2 _ rfl) (lit_str _ (HS9.out.at_ 6 rfl)) (by omega) (fun _ a ha => by cases ha; exact fun h1 => HS9.out.apart 2 6 _ _ rfl rfl (by decide) _ h1 rfl) HXL.out).mono ?_
      rintro e W10 ⟨rfl, A5, c5, hM⟩
      rw [← HB1.out] at hM
      have HS10 := Lib.hid (HS9.out.call 2 rfl hM)
      clear hM HS9
      obtain ⟨r5a, r5b, r5c⟩ := HS10.out.rules 5 rfl
      go_wp2_with (have hq := HS10; clear hq; (with_reducible refine atBuild ?_); refine wpList_build_b rfl (some 37) rfl 3 2 (#[.int .i64 c.has, .int .i64 c.at_]) (by kernel_rfl) ?_; intro g11 W11 hb hB hg; have HS11 := Lib.hid (HS10.out.new hb hB hg); clear hb hB hg HS10; clear r5a r5b r5c)
      refine (wInt_c g2 A5 c5 b1 _ 2 2 [c.has, c.at_] _ (HS11.out.ok 2 _ rfl) (lit_int2 _ _ (HS11.out.at_ 7 rfl)) HXX.out (fun _ a ha => by cases ha; exact fun h1 => HS11.out.apart 2 7 _ _ rfl rfl (by decide) _ h1 rfl) (by have := HB1L.out; omega)).mono ?_
      rintro e W12 ⟨rfl, A6, c6, hM⟩
      rw [HB2.out] at hM
      have HS12 := Lib.hid (HS11.out.call 2 rfl hM)
      clear hM HS11
      go_wp2_with fail
      refine ⟨⟨k2 + 1, A6, c6, by omega, by go_num, ?_⟩, by simp [intOf]; omega⟩
      exact Lib.hid (Ms.cut (l := [(.blk g lgT (lgA half b)), .mx b ob L, .wr g2 A6 c6 (outB L (k2 + 1)), (.blk g3 3 #[.int .i64 (L.length : Nat)]), nmR (some ad) c2 (names L)]) (k := [(.blk g7 66 (acA c)), (.blk g9 9 #[str u]), (.blk g11 3 #[.int .i64 c.has, .int .i64 c.at_])]) HS12.out)
    · obtain rfl : k2 = L.length := by omega
      go_wp2_with fail
      refine (wBytes_c g2 A4 c4 (outB L L.length) _ (HS6.out.ok 2 _ rfl) (by have := outB_len HOK.out L.length; omega)).mono ?_
      rintro e W7 ⟨A7, c7, rfl, hM⟩
      have HS7 := Lib.hid (HS6.out.made hM)
      clear hM HS6
      go_wp2_with fail
      go_ret
      rw [← outB_all]
      exact ⟨A7, c7, rfl, HS7.out.takeR HB.out HO.out 3 rfl⟩
end Go.Proofs.Ytflgnlpippjhcaa
