/- Code: the law CodeBack. -/
import Derived.Test.YtphmaimgpolaoaaCh
set_option linter.unusedVariables false
namespace Go.Proofs.Ytphmaimgpolaoaa
open Go.RowKit Go.Sort

theorem pk_enc {bs r : List UInt8} {p : Nat} {x : Int} (h0 : -9223372036854775808 ≤ x) (h1 : x ≤ 9223372036854775807) (h : bs.drop p = encI x ++ r) : pkR bs p 0 0 = (x, p + (encI x).length, 0, 0) := by
  rw [pk_ok (u := Lib.zigzag x) (k := (encI x).length) (by decide) (by rw [h]; exact dec_enc h0 h1 r), unzig_zigzag]
theorem int_enc {bs r : List UInt8} {p : Nat} {x : Int} (h0 : -9223372036854775808 ≤ x) (h1 : x ≤ 9223372036854775807) (h : bs.drop p = encI x ++ r) : intR bs p 0 0 = (x, p + (encI x).length, 0, 0) := by
  unfold intR; rw [pk_enc h0 h1 h]; rfl
theorem text_enc {bs r : List UInt8} {p : Nat} {s : ByteArray} (hs : s.size ≤ 1099511627776) (h : bs.drop p = encT s ++ r) : textR bs p 0 0 s.size = (s.data.toList, p + (encT s).length, 0, 0) := by
  have h2 : bs.drop p = encI s.size ++ (s.data.toList ++ r) := by rw [h]; unfold encT; rw [List.append_assoc]
  have hl : s.data.toList.length = s.size := rfl
  have h3 : bs.drop (p + (encI s.size).length) = s.data.toList ++ r := by
    rw [← List.drop_drop, h2, List.drop_left]
  have h4 := congrArg List.length h3
  rw [List.length_drop, List.length_append, hl] at h4
  unfold textR
  rw [pk_enc (by omega) (by omega) h2]
  simp only
  rw [if_pos (by decide), if_neg (by omega)]
  by_cases h5 : (bs.length : Int) - ((p + (encI s.size).length : Nat) : Int) < (s.size : Int)
  · exfalso
    rcases Nat.lt_or_ge bs.length (p + (encI s.size).length) with h6 | h6
    · have h7 : bs.drop p = [] ∨ bs.length ≤ p + (encI s.size).length := .inr (by omega)
      have h8 := congrArg List.length h2
      rw [List.length_drop, List.length_append] at h8
      have h9 := (encI_len (n := ((s.size : Nat) : Int)) (by omega) (by omega)).1
      omega
    · omega
  · rw [if_neg h5]
    refine Prod.ext ?_ (Prod.ext ?_ rfl)
    · show (bs.drop (p + (encI s.size).length)).take ((s.size : Int)).toNat = _
      rw [h3, Int.toNat_natCast, ← hl, List.take_left]
    · show p + (encI s.size).length + ((s.size : Int)).toNat = p + (encT s).length
      unfold encT
      rw [List.length_append, hl, Int.toNat_natCast, Nat.add_assoc]
theorem partW_enc (x : Nat) (l r : List UInt8) (h : l = encW x ++ r) : ∀ k, k ≤ 8 → partW l k = x % 256 ^ k
  | 0, _ => by simp [partW, Nat.mod_one]
  | k + 1, hk => by
    have ih := partW_enc x l r h k (by omega)
    have hb : (l.getD k 0).toNat = x / 256 ^ k % 256 := by
      rw [h, List.getD_eq_getElem?_getD, List.getElem?_append_left (by rw [encW_len]; omega)]
      unfold encW
      rw [List.getElem?_map, List.getElem?_range (by omega)]
      exact u8_toNat (Nat.mod_lt _ (by decide))
    show partW l k + (l.getD k 0).toNat * 2 ^ (8 * k) = _
    rw [ih, hb, show (2 : Nat) ^ (8 * k) = 256 ^ k by rw [Nat.pow_mul], Nat.pow_succ, Nat.mod_mul, Nat.mul_comm]
theorem word_enc {bs r : List UInt8} {p i x : Nat} (hx : x < 18446744073709551616) (h : bs.drop (p + 8 * i) = encW x ++ r) : wordR bs p i = x := by
  unfold wordR
  rw [partW_enc x _ r h 8 (by omega)]
  have e : (256 : Nat) ^ 8 = 18446744073709551616 := by decide
  rw [e]
  exact Nat.mod_eq_of_lt hx
theorem nodes_enc {bs r : List UInt8} {p x0 x1 x2 x3 : Nat} (hx : ∀ k, wdAt x0 x1 x2 x3 k < 18446744073709551616) (h : bs.drop p = encN x0 x1 x2 x3 ++ r) : ∃ f, nodesR bs p 0 0 = (f, p + 32, 0, 0) ∧ f 0 = x0 ∧ f 1 = x1 ∧ f 2 = x2 ∧ f 3 = x3 := by
  have hl := congrArg List.length h
  rw [List.length_drop, List.length_append, encN_len] at hl
  refine ⟨wordR bs p, ?_, ?_, ?_, ?_, ?_⟩
  · unfold nodesR
    rw [if_pos (by decide), if_neg (by omega)]
  all_goals unfold encN at h
  · exact word_enc (r := encW x1 ++ (encW x2 ++ encW x3) ++ r) (hx 0) (by rw [Nat.mul_zero, Nat.add_zero, h]; simp)
  · refine word_enc (r := (encW x2 ++ encW x3) ++ r) (hx 1) ?_
    rw [← List.drop_drop, h, List.append_assoc, show 8 * 1 = (encW x0).length by rw [encW_len], List.drop_left]; simp
  · refine word_enc (r := encW x3 ++ r) (hx 2) ?_
    rw [← List.drop_drop, h, show encW x0 ++ (encW x1 ++ (encW x2 ++ encW x3)) ++ r = (encW x0 ++ encW x1) ++ (encW x2 ++ (encW x3 ++ r)) by simp, show 8 * 2 = (encW x0 ++ encW x1).length by rw [List.length_append, encW_len, encW_len], List.drop_left]
  · refine word_enc (r := r) (hx 3) ?_
    rw [← List.drop_drop, h, show encW x0 ++ (encW x1 ++ (encW x2 ++ encW x3)) ++ r = (encW x0 ++ encW x1 ++ encW x2) ++ (encW x3 ++ r) by simp, show 8 * 3 = (encW x0 ++ encW x1 ++ encW x2).length by rw [List.length_append, List.length_append, encW_len, encW_len, encW_len], List.drop_left]
theorem eqNd_runG (a0 a1 a2 a3 b0 b1 b2 b3 : Int) (w : World) :
    (Op.equalIn 10000 41 (.agg #[.int .u64 a0, .int .u64 a1, .int .u64 a2, .int .u64 a3]) (.agg #[.int .u64 b0, .int .u64 b1, .int .u64 b2, .int .u64 b3])).run Try.prog w = .ok (a0 == b0 && (a1 == b1 && (a2 == b2 && a3 == b3))) w := by
  have e : ∀ a b : Int, (Op.equalIn 9999 39 (.int .u64 a) (.int .u64 b)).run Try.prog w = .ok (a == b) w := fun a b => run_equalIn_int w 9998 39 .u64 .u64 a b Try.underlying39
  have hs : (sizeOf 39).run Try.prog w = .ok 1 w := by kernel_rfl
  have p : ∀ (x0 x1 x2 x3 : Int), (part 39 #[.int .u64 x0, .int .u64 x1, .int .u64 x2, .int .u64 x3] (0 * 1)).run Try.prog w = .ok (.int .u64 x0) w ∧ (part 39 #[.int .u64 x0, .int .u64 x1, .int .u64 x2, .int .u64 x3] (1 * 1)).run Try.prog w = .ok (.int .u64 x1) w ∧
      (part 39 #[.int .u64 x0, .int .u64 x1, .int .u64 x2, .int .u64 x3] (2 * 1)).run Try.prog w = .ok (.int .u64 x2) w ∧ (part 39 #[.int .u64 x0, .int .u64 x1, .int .u64 x2, .int .u64 x3] (3 * 1)).run Try.prog w = .ok (.int .u64 x3) w := fun x0 x1 x2 x3 =>
    ⟨by kernel_rfl, by kernel_rfl, by kernel_rfl, by kernel_rfl⟩
  show (Op.equalIn (9999 + 1) 41 _ _).run Try.prog w = _
  unfold Op.equalIn
  simp only [Sem.run_bind, run_underlying Try.underlying41, Result.andThen_ok, hs]
  rw [Std.Legacy.Range.forIn_eq_forIn_range']
  simp only [Std.Legacy.Range.size]
  cases h0 : (a0 == b0) <;> cases h1 : (a1 == b1) <;> cases h2 : (a2 == b2) <;> cases h3 : (a3 == b3) <;> simp [List.range', p, e, h0, h1, h2, h3]
theorem eqNd_runI (x0 x1 x2 x3 : Nat) (w : World) (h : ∀ a0 a1 a2 a3 b0 b1 b2 b3 : Int, (Op.equalIn 10000 41 (.agg #[.int .u64 a0, .int .u64 a1, .int .u64 a2, .int .u64 a3]) (.agg #[.int .u64 b0, .int .u64 b1, .int .u64 b2, .int .u64 b3])).run Try.prog w = .ok (a0 == b0 && (a1 == b1 && (a2 == b2 && a3 == b3))) w) :
    (Op.equalIn 10000 41 (ndV x0 x1 x2 x3) (ndV x0 x1 x2 x3)).run Try.prog w = .ok true w := by
  unfold ndV; rw [h]; simp
/-- What lies behind the first k. -/
theorem encL_drop (xs : List Int) (k : Nat) (r : List UInt8) (h : k < xs.length) : (encL xs ++ r).drop (encL (xs.take k)).length = encI (xs.getD k 0) ++ (encL (xs.drop (k + 1)) ++ r) := by
  have e : encL xs = encL (xs.take k) ++ (encI (xs.getD k 0) ++ encL (xs.drop (k + 1))) := by
    conv => lhs; rw [← List.take_append_drop (k + 1) xs, take_snoc xs k h]
    rw [encL_append, encL_append, encL_one, List.append_assoc]
  conv => lhs; rw [e]
  rw [List.append_assoc, List.drop_left, List.append_assoc]
theorem encTs_drop (ts : List ByteArray) (k : Nat) (l : List UInt8) (h : k < ts.length) : (l ++ encTs ts).drop (l.length + (encTs (ts.take k)).length) = encT (ts.getD k .empty) ++ encTs (ts.drop (k + 1)) := by
  have e : encTs ts = encTs (ts.take k) ++ (encT (ts.getD k .empty) ++ encTs (ts.drop (k + 1))) := by
    conv => lhs; rw [← List.take_append_drop (k + 1) ts, takeS_snoc ts k h]
    rw [encTs_append, encTs_append, encTs_one, List.append_assoc]
  rw [← List.drop_drop, List.drop_left]
  conv => lhs; rw [e]
  rw [List.drop_left]

set_option maxRecDepth 100000 in
set_option maxHeartbeats 16000000 in
theorem codeBack_w (A : Option Addr) (m c : Nat) (xs : List Int) (B : Option Addr) (n d : Nat) (ts : List ByteArray) (x0 x1 x2 x3 : Nat) (w : World) (hR : ReadsI w A m xs) (hx : ∀ x ∈ xs, -9223372036854775808 ≤ x ∧ x ≤ 9223372036854775807) (hm : m ≤ 1099511627776) (hT : ReadsS w B n ts) (hn : n ≤ 1099511627776) (ht : (encTs ts).length ≤ 17592186044416)
    (hts : ∀ t ∈ ts, t.size ≤ 1099511627776) (hw : ∀ k, wdAt x0 x1 x2 x3 k < 18446744073709551616) :
    Calls Try.prog 6 #[.slice A m c, .slice B n d, ndV x0 x1 x2 x3] w fun e w' => e = .returned (.bool true) ∧ Below w.heap.size w w' := by
  have HS0 := Lib.hid (Ms.nil w noB)
  have HR := Lib.hid hR
  have HX := Lib.hid hx
  have HT := Lib.hid hT
  have HM := Lib.hid (And.intro hm hn)
  have HTL := Lib.hid ht
  have HTS := Lib.hid hts
  have HW := Lib.hid hw
  have HXL := Lib.hid (show (encL xs).length ≤ 10 * m by have := encL_len hx; rw [hR.1] at this; exact this)
  have HI0 := Lib.hid (fun w' => eqNd_runI x0 x1 x2 x3 w' (fun a0 a1 a2 a3 b0 b1 b2 b3 => eqNd_runG a0 a1 a2 a3 b0 b1 b2 b3 w'))
  clear hR hx hm hT hn ht hw hts
  obtain ⟨b1, hb1⟩ : ∃ b1, b1 = ([] : List UInt8) ++ encL xs := ⟨_, rfl⟩
  obtain ⟨b2, hb2⟩ : ∃ b2, b2 = b1 ++ encN x0 x1 x2 x3 := ⟨_, rfl⟩
  obtain ⟨b3, hb3⟩ : ∃ b3, b3 = b2 ++ encTs ts := ⟨_, rfl⟩
  have HB1 := Lib.hid hb1
  have HB2 := Lib.hid hb2
  have HB3 := Lib.hid hb3
  have HL1 := Lib.hid (show b1.length ≤ 10995116277760 by rw [hb1]; simp; have := HXL.out; have := HM.out; omega)
  have HL2 := Lib.hid (show b2.length ≤ 10995116277792 by rw [hb2, List.length_append, encN_len]; have := HL1.out; omega)
  have HL3 := Lib.hid (show b3.length ≤ 28587302322208 by rw [hb3, List.length_append]; have := HL2.out; have := HTL.out; omega)
  have HE2 := Lib.hid (show b2.length = b1.length + 32 by rw [hb2, List.length_append, encN_len])
  have HD1 := Lib.hid (fun k (hk : k < xs.length) => show b3.drop (encL (xs.take k)).length = encI (xs.getD k 0) ++ (encL (xs.drop (k + 1)) ++ (encN x0 x1 x2 x3 ++ encTs ts)) by
    rw [hb3, hb2, hb1, List.nil_append, List.append_assoc]; exact encL_drop xs k _ hk)
  have HD2 := Lib.hid (show b3.drop b1.length = encN x0 x1 x2 x3 ++ encTs ts by rw [hb3, hb2, List.append_assoc, List.drop_left])
  have HD3 := Lib.hid (fun k (hk : k < ts.length) => show b3.drop (b2.length + (encTs (ts.take k)).length) = encT (ts.getD k .empty) ++ encTs (ts.drop (k + 1)) by rw [hb3]; exact encTs_drop ts k b2 hk)
  have HE3 := Lib.hid (show b3.length = b2.length + (encTs ts).length by rw [hb3, List.length_append])
  clear hb1 hb2 hb3
  go_enter Try.func6, Try.ntmps6
  go_wp2_with (first
    | (refine wpList_alloc_b rfl (some 5) rfl 41 (ndA x0 x1 x2 x3) (by kernel_rfl) ?_; intro g1 W1 hb hB hg; have HS1 := Lib.hid (HS0.out.new hb hB hg); clear hb hB hg HS0)
    | (refine wpList_alloc_b rfl (some 7) rfl 26 #[.slice none 0 0] (by kernel_rfl) ?_; intro g2 W2 hb hB hg; have HS2 := Lib.hid (HS1.out.wrNew hb hB hg); clear hb hB hg HS1))
  refine (wInt_c g2 none 0 [] A m c xs _ (HS2.out.ok 1 _ rfl) (HR.out.below HS2.out.below) HX.out (fun hp a ha => HS2.out.apartIn 1 rfl (readsI_lt HR.out hp a ha)) (by have := HM.out; simp; omega)).mono ?_
  rintro e W3 ⟨rfl, A3, c3, hM⟩
  rw [← HB1.out] at hM
  have HS3 := Lib.hid (HS2.out.call 1 rfl hM)
  clear hM HS2
  go_wp2_with (refine wpList_load_at rfl 41 _ rfl (HS3.out.at_ 0 rfl) 4 (ndV x0 x1 x2 x3) rfl _ Try.underlying41 rfl (by kernel_rfl) (Nat.le_of_ble_eq_true rfl) rfl ?_)
  refine (wNodes_c g2 A3 c3 b1 x0 x1 x2 x3 _ (HS3.out.ok 1 _ rfl) HW.out (by have := HL1.out; omega)).mono ?_
  rintro e W4 ⟨rfl, A4, c4, hM⟩
  rw [← HB2.out] at hM
  have HS4 := Lib.hid (HS3.out.call 1 rfl hM)
  clear hM HS3
  go_wp2_with fail
  refine (wText_c g2 A4 c4 b2 B n d ts _ (HS4.out.ok 1 _ rfl) (HT.out.below HS4.out.below) (by have := HM.out; omega) (fun hp a ha => HS4.out.apartIn 1 rfl (readsS_lt HT.out hp a ha)) (by have := HL2.out; have := HTL.out; omega)).mono ?_
  rintro e W5 ⟨rfl, A5, c5, hM⟩
  rw [← HB3.out] at hM
  have HS5 := Lib.hid (HS4.out.call 1 rfl hM)
  clear hM HS4
  go_wp2_with fail
  refine (wBytes_c g2 A5 c5 b3 _ (HS5.out.ok 1 _ rfl) (by have := HL3.out; omega)).mono ?_
  rintro e W6 ⟨A6, c6, rfl, hM⟩
  have HS6 := Lib.hid (HS5.out.made hM)
  clear hM HS5
  go_wp2_with fail
  refine (new_c A6 b3.length c6 _).mono ?_
  rintro e W7 ⟨r, rfl, hM⟩
  have HS7 := Lib.hid (HS6.out.made hM)
  clear hM HS6
  have hmI : (m : Int) ≤ 1099511627776 := by have := HM.out; omega
  have hnI : (n : Int) ≤ 1099511627776 := by have := HM.out; omega
  have HBs := Lib.hid (show b3.length ≤ 140737488355328 by have := HL3.out; omega)
  go_wp2_with fail
  go_loopw [25] (fun i wr => ∃ k : Nat, k ≤ m ∧ i = .int .i64 k ∧ Ms w noB [.blk g1 41 (ndA x0 x1 x2 x3), .wr g2 A5 c5 b3, rowB A6 c6 b3, blkR r A6 b3.length c6 (encL (xs.take k)).length 0 0] wr) (fun i _ => m - (intOf i).toNat)
  case atStart => exact ⟨0, by omega, rfl, HS7.out⟩
  case round =>
    obtain ⟨k, hk, rfl, hS⟩ := hrel
    clear HS7
    have HS8 := Lib.hid hS
    clear hS
    have hpk : (encL (xs.take k)).length ≤ b1.length := by
      rw [HB1.out, List.nil_append]
      have h := congrArg List.length (encL_append (xs.take k) (xs.drop k))
      rw [List.take_append_drop, List.length_append] at h
      omega
    have HPK := Lib.hid (show (encL (xs.take k)).length ≤ b3.length by rw [HE3.out, HE2.out]; omega)
    clear hpk
    by_cases hlt : k < m
    · have hltI : (k : Int) < (m : Int) := by omega
      obtain ⟨ad, hAe, hcx⟩ := (HR.out.below HS8.out.below).2.2 (by omega)
      have hcell := hcx k hlt
      have hdk := HD1.out k (by rw [HR.out.1]; exact hlt)
      obtain ⟨x, hxe⟩ : ∃ x, x = xs.getD k 0 := ⟨_, rfl⟩
      rw [← hxe] at hcell hdk
      have hxx : -9223372036854775808 ≤ x ∧ x ≤ 9223372036854775807 := by
        rw [hxe]
        refine HX.out _ ?_
        rw [List.getD_eq_getElem?_getD, List.getElem?_eq_getElem (show k < xs.length by rw [HR.out.1]; exact hlt)]
        exact List.getElem_mem _
      have HI := Lib.hid (int_enc hxx.1 hxx.2 hdk)
      have HN := Lib.hid (show (encL (xs.take (k + 1))).length = (encL (xs.take k)).length + (encI x).length by rw [hxe, take_snoc xs k (by rw [HR.out.1]; exact hlt), encL_append, encL_one, List.length_append])
      clear hcx hxe hxx hdk
      subst hAe
      go_wp2_with fail
      clear hcell
      refine (rInt_c r A6 b3.length c6 _ 0 0 b3 _ (HS8.out.rd 2 3 rfl rfl (by decide) HPK.out HBs.out) x _ 0 0 HI.out).mono ?_
      rintro e W9 ⟨rfl, hM⟩
      rw [← HN.out] at hM
      have HS9 := Lib.hid (HS8.out.call 3 rfl hM)
      clear hM HS8
      go_wp2_with fail
      exact ⟨⟨k + 1, by omega, by go_num, HS9.out⟩, by simp [intOf]; omega⟩
    · have hltI : ¬ (k : Int) < (m : Int) := by omega
      have HPe := Lib.hid (show (encL (xs.take k)).length = b1.length by rw [HB1.out, List.take_of_length_le (by rw [HR.out.1]; omega), List.nil_append])
      rw [HPe.out] at HS8
      obtain ⟨f, hf, hf0, hf1, hf2, hf3⟩ := nodes_enc HW.out HD2.out
      have HF := Lib.hid hf
      clear HPe HPK hf
      have hE := HS8.out
      go_wp2_with fail
      have hq : ∀ w', (Op.equalIn 10000 41 (.agg #[.int .u64 (x0 : Nat), .int .u64 (x1 : Nat), .int .u64 (x2 : Nat), .int .u64 (x3 : Nat)]) (.agg #[.int .u64 (x0 : Nat), .int .u64 (x1 : Nat), .int .u64 (x2 : Nat), .int .u64 (x3 : Nat)])).run Try.prog w' = .ok true w' := HI0.out
      go_region_held3 (fun w' => (∀ o, w'.cell? ⟨g1, o, none⟩ = (ndA x0 x1 x2 x3)[o]?))
        (first
          | exact ((hE.drewN 1).at_ 0 rfl).cell
          | exact (hM1.at_ 0 rfl).cell)
        ((go_at_call 23; (refine (rNodes_c r A6 b3.length c6 b1.length 0 0 b3 _ ((hE.drewN 1).rd 2 3 rfl rfl (by decide) (by have := HE3.out; have := HE2.out; omega) HBs.out) f _ 0 0 HF.out).mono ?_); rw [hf0, hf1, hf2, hf3]; rintro e w1 ⟨rfl, hM⟩; have hM1 := (hE.drewN 1).call 3 rfl hM; unfold ndV))
      all_goals
        have HS9 := Lib.hid hM1
        clear hM1 hM hE HS8
        go_wp2_with fail
        go_loopw [40] (fun i wr => ∃ k : Nat, k ≤ n ∧ i = .int .i64 k ∧ Ms w noB [.blk g1 41 (ndA x0 x1 x2 x3), .wr g2 A5 c5 b3, rowB A6 c6 b3, blkR r A6 b3.length c6 (b2.length + (encTs (ts.take k)).length) 0 0] wr) (fun i _ => n - (intOf i).toNat)
        case atStart => exact ⟨0, by omega, rfl, by have h := HS9.out; rw [← HE2.out] at h; simpa [encTs] using h⟩
        case round =>
          obtain ⟨j, hj, rfl, hS⟩ := hrel
          clear HS9
          have HSa := Lib.hid hS
          clear hS
          by_cases hlt2 : j < n
          · have hltJ : (j : Int) < (n : Int) := by omega
            obtain ⟨ad, hAe, hcx⟩ := (HT.out.below HSa.out.below).2.2 (by omega)
            have hcell := hcx j hlt2
            have hdk := HD3.out j (by rw [HT.out.1]; exact hlt2)
            obtain ⟨x, hxe⟩ : ∃ x, x = ts.getD j .empty := ⟨_, rfl⟩
            rw [← hxe] at hcell hdk
            have hxs : x.size ≤ 1099511627776 := by
              rw [hxe]
              refine HTS.out _ ?_
              rw [List.getD_eq_getElem?_getD, List.getElem?_eq_getElem (show j < ts.length by rw [HT.out.1]; exact hlt2)]
              exact List.getElem_mem _
            have hxI : (x.size : Int) ≤ 1099511627776 := by omega
            have HI := Lib.hid (text_enc hxs hdk)
            have HN := Lib.hid (show b2.length + (encTs (ts.take (j + 1))).length = b2.length + (encTs (ts.take j)).length + (encT x).length by rw [hxe, takeS_snoc ts j (by rw [HT.out.1]; exact hlt2), encTs_append, encTs_one, List.length_append]; omega)
            have HPl := Lib.hid (show b2.length + (encTs (ts.take j)).length ≤ b3.length by
              rw [HE3.out]
              have h := congrArg List.length (encTs_append (ts.take j) (ts.drop j))
              rw [List.take_append_drop, List.length_append] at h
              omega)
            clear hcx hxe hxs hdk
            subst hAe
            go_wp2_with fail
            clear hcell
            refine (rText_c r A6 b3.length c6 _ 0 0 x.size b3 _ (HSa.out.rd 2 3 rfl rfl (by decide) HPl.out HBs.out) _ _ 0 0 HI.out).mono ?_
            rw [strOf_data]
            rintro e W9 ⟨rfl, hM⟩
            rw [← HN.out] at hM
            have HSb := Lib.hid (HSa.out.call 3 rfl hM)
            clear hM HSa
            go_wp2_with fail
            exact ⟨⟨j + 1, by omega, by go_num, HSb.out⟩, by simp [intOf]; omega⟩
          · have hltJ : ¬ (j : Int) < (n : Int) := by omega
            have HPe := Lib.hid (show b2.length + (encTs (ts.take j)).length = b3.length by rw [List.take_of_length_le (by rw [HT.out.1]; omega), HE3.out])
            rw [HPe.out] at HSa
            clear HPe
            have HEq := Lib.hid (fun w' => show (Op.equalIn 10000 30 (.agg (fltA 0 0)) (.agg (fltA 0 0))).run Try.prog w' = .ok true w' by rw [eqFlt_run]; rfl)
            go_wp2_with fail
            refine (rEnd_c r A6 b3.length c6 b3.length 0 0 b3 _ (HSa.out.rd 2 3 rfl rfl (by decide) (Nat.le_refl _) HBs.out)).mono ?_
            rw [show endR b3.length b3.length 0 0 = (0, 0) by unfold endR; rw [if_neg (by omega)]]
            rintro e W10 ⟨rfl, hM⟩
            have HSc := Lib.hid (HSa.out.call 3 rfl hM)
            clear hM HSa
            go_wp2_with fail
            refine (alive_c _).mono ?_
            rintro e W11 ⟨rfl, hb⟩
            have hz := (HSc.out.after hb).below
            go_wp2
            go_ret
            exact ⟨rfl, hz⟩
end Go.Proofs.Ytphmaimgpolaoaa
