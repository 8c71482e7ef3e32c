/- Code: nobody's writer and reader; the law CodeNobody. -/
import Derived.Test.YtphmaimgpolaoaaCc
set_option linter.unusedVariables false
namespace Go.Proofs.Ytphmaimgpolaoaa
open Go.RowKit Go.Sort

theorem nilWInt_c (A : Option Addr) (m c : Nat) (w : World) : Calls Try.prog 12 #[.pointer none, .slice A m c] w fun e w' => e = .returned (.tuple #[]) ∧ w = w' := by
  go_enter Try.func12, Try.ntmps12
  go_wp2
  (try simp only [Exit.inBlock, Exit.then]); refine bodyPost_ret (results_none rfl _ _ _) rfl ?_
  exact ⟨rfl, rfl⟩
theorem nilWText_c (A : Option Addr) (m c : Nat) (w : World) : Calls Try.prog 16 #[.pointer none, .slice A m c] w fun e w' => e = .returned (.tuple #[]) ∧ w = w' := by
  go_enter Try.func16, Try.ntmps16
  go_wp2
  (try simp only [Exit.inBlock, Exit.then]); refine bodyPost_ret (results_none rfl _ _ _) rfl ?_
  exact ⟨rfl, rfl⟩
theorem nilWNodes_c (x0 x1 x2 x3 : Int) (w : World) : Calls Try.prog 17 #[.pointer none, .agg #[.int .u64 x0, .int .u64 x1, .int .u64 x2, .int .u64 x3]] w fun e w' => e = .returned (.tuple #[]) ∧ Below w.heap.size w w' := by
  have HS0 := Lib.hid (Ms.nil w noB)
  go_enter Try.func17, Try.ntmps17
  go_wp2_with (refine wpList_alloc_b rfl (some 3) rfl 41 #[.int .u64 x0, .int .u64 x1, .int .u64 x2, .int .u64 x3] (by kernel_rfl) ?_; intro g1 W1 hb hB hg; have HS1 := Lib.hid (HS0.out.new hb hB hg); clear hb hB hg HS0)
  (try simp only [Exit.inBlock, Exit.then]); refine bodyPost_ret (results_none rfl _ _ _) rfl ?_
  exact ⟨rfl, HS1.out.below⟩
theorem nilWBytes_c (w : World) : Calls Try.prog 15 #[.pointer none] w fun e w' => e = .returned (.slice none 0 0) ∧ w = w' := by
  go_enter Try.func15, Try.ntmps15
  go_wp2
  go_ret
  exact ⟨rfl, rfl⟩
theorem nilWell_c (w : World) : Calls Try.prog 26 #[.pointer none] w fun e w' => e = .returned (.bool false) ∧ w = w' := by
  go_enter Try.func26, Try.ntmps26
  go_wp2
  go_ret
  exact ⟨rfl, rfl⟩
theorem nilPeek_c (w : World) : Calls Try.prog 25 #[.pointer none] w fun e w' => e = .returned (.tuple #[.int .i64 0, .int .i64 0]) ∧ w = w' := by
  go_enter Try.func25, Try.ntmps25
  go_wp2_with ((with_reducible refine (nilWell_c _).mono ?_); rintro e w' ⟨rfl, rfl⟩)
  go_ret2
  exact ⟨rfl, rfl⟩
theorem nilRInt_c (w : World) : Calls Try.prog 11 #[.pointer none] w fun e w' => e = .returned (.int .i64 0) ∧ w = w' := by
  go_enter Try.func11, Try.ntmps11
  go_wp2_with (first | ((with_reducible refine (nilPeek_c _).mono ?_); rintro e w' ⟨rfl, rfl⟩) | ((with_reducible refine (nilWell_c _).mono ?_); rintro e w' ⟨rfl, rfl⟩))
  go_ret
  exact ⟨rfl, rfl⟩
theorem nilRIn_c (a b : Int) (w : World) : Calls Try.prog 21 #[.pointer none, .int .i64 a, .int .i64 b] w fun e w' => e = .returned (.int .i64 0) ∧ w = w' := by
  go_enter Try.func21, Try.ntmps21
  go_wp2_with (first | ((with_reducible refine (nilPeek_c _).mono ?_); rintro e w' ⟨rfl, rfl⟩) | ((with_reducible refine (nilWell_c _).mono ?_); rintro e w' ⟨rfl, rfl⟩))
  go_ret
  exact ⟨rfl, rfl⟩
theorem nilRText_c (a : Int) (w : World) : Calls Try.prog 22 #[.pointer none, .int .i64 a] w fun e w' => e = .returned (.string { data := #[] }) ∧ w = w' := by
  go_enter Try.func22, Try.ntmps22
  go_wp2_with (first | ((with_reducible refine (nilPeek_c _).mono ?_); rintro e w' ⟨rfl, rfl⟩) | ((with_reducible refine (nilWell_c _).mono ?_); rintro e w' ⟨rfl, rfl⟩))
  go_ret
  exact ⟨rfl, rfl⟩
theorem nilRLeft_c (w : World) : Calls Try.prog 9 #[.pointer none] w fun e w' => e = .returned (.int .i64 0) ∧ w = w' := by
  go_enter Try.func9, Try.ntmps9
  go_wp2
  go_ret
  exact ⟨rfl, rfl⟩
set_option maxRecDepth 100000 in
set_option maxHeartbeats 4000000 in
theorem nilRNodes_c (w : World) : Calls Try.prog 23 #[.pointer none] w fun e w' => e = .returned (.agg z4) ∧ Below w.heap.size w w' := by
  have HS0 := Lib.hid (Ms.nil w noB)
  go_enter Try.func23, Try.ntmps23
  go_wp2_with (first
    | (refine wpList_alloc_b rfl (some 2) rfl 41 z4 (by kernel_rfl) ?_; intro g1 W1 hb hB hg; have HS1 := Lib.hid (HS0.out.new hb hB hg); clear hb hB hg HS0)
    | (refine wpList_alloc_b rfl (some 3) rfl 41 z4 (by kernel_rfl) ?_; intro g2 W2 hb hB hg; have HS2 := Lib.hid (HS1.out.new hb hB hg); clear hb hB hg HS1))
  refine (nilWell_c _).mono ?_
  rintro e w' ⟨rfl, rfl⟩
  go_wp2_with (first
    | (refine wpList_load_at rfl 41 _ rfl (HS2.out.at_ 1 rfl) 4 (.agg z4) rfl _ Try.underlying41 rfl (by kernel_rfl) (Nat.le_of_ble_eq_true rfl) rfl ?_)
    | (refine wpList_store_at rfl 41 _ _ rfl (HS2.out.at_ 0 rfl) (.agg z4) rfl rfl (by kernel_rfl) (Nat.le_of_ble_eq_true rfl) (by kernel_rfl) ?_; intro W5 hB hP; have HS5 := Lib.hid (HS2.out.put 0 rfl (new := z4) hB hP); clear hB hP HS2))
  exact post_cell rfl rfl (HS5.out.at_ 0 rfl) Try.underlying41 rfl (by kernel_rfl) rfl ⟨rfl, HS5.out.below⟩
set_option maxRecDepth 100000 in
set_option maxHeartbeats 4000000 in
theorem nilRFault_c (w : World) : Calls Try.prog 10 #[.pointer none] w fun e w' => e = .returned (fltV 4 0) ∧ Below w.heap.size w w' := by
  have HS0 := Lib.hid ((Ms.nil w noB))
  go_enter Try.func10, Try.ntmps10
  go_wp2_with (first
    | (refine wpList_alloc_b rfl (some 2) rfl 30 (fltA 0 0) (by kernel_rfl) ?_; intro g1 W1 hb hB hg; have HS1 := Lib.hid (HS0.out.new hb hB hg); clear hb hB hg HS0)
    | (refine wpList_store_at rfl 30 _ _ rfl (HS1.out.at_ 0 rfl) (fltV 4 0) rfl rfl (by kernel_rfl) (Nat.le_of_ble_eq_true rfl) (by kernel_rfl) ?_; intro W5 hB hP; have HS5 := Lib.hid (HS1.out.put 0 rfl (new := fltA 4 0) hB hP); clear hB hP HS1))
  exact post_cell rfl rfl (HS5.out.at_ 0 rfl) Try.underlying30 rfl (by kernel_rfl) rfl ⟨rfl, HS5.out.below⟩
set_option maxRecDepth 100000 in
set_option maxHeartbeats 4000000 in
theorem nilREnd_c (w : World) : Calls Try.prog 24 #[.pointer none] w fun e w' => e = .returned (fltV 4 0) ∧ Below w.heap.size w w' := by
  have HS0 := Lib.hid ((Ms.nil w noB))
  go_enter Try.func24, Try.ntmps24
  go_wp2_with (refine wpList_alloc_b rfl (some 2) rfl 30 (fltA 0 0) (by kernel_rfl) ?_; intro g1 W1 hb hB hg; have HS1 := Lib.hid (HS0.out.new hb hB hg); clear hb hB hg HS0)
  refine (nilRLeft_c _).mono ?_
  rintro e w' ⟨rfl, rfl⟩
  go_wp2_with fail
  refine (nilRFault_c _).mono ?_
  rintro e W4 ⟨rfl, hb⟩
  have HS4 := Lib.hid (HS1.out.after hb)
  clear hb HS1
  go_wp2_with (refine wpList_store_at rfl 30 _ _ rfl (HS4.out.at_ 0 rfl) (fltV 4 0) rfl rfl (by kernel_rfl) (Nat.le_of_ble_eq_true rfl) (by kernel_rfl) ?_; intro W5 hB hP; have HS5 := Lib.hid (HS4.out.put 0 rfl (new := fltA 4 0) hB hP); clear hB hP HS4)
  exact post_cell rfl rfl (HS5.out.at_ 0 rfl) Try.underlying30 rfl (by kernel_rfl) rfl ⟨rfl, HS5.out.below⟩
/-- A byte of a row is written. -/
theorem Ms.rowSet {w W : World} {ex : Nat → Prop} {l : List Own} {g c : Nat} {bs : List UInt8} (h : Ms w ex l W) (i : Nat) (hi : l[i]? = some (rowB (some ⟨g, 0, none⟩) c bs)) (k : Nat) (x : UInt8) (hk : k < bs.length) : Ms w ex (l.set i (rowB (some ⟨g, 0, none⟩) c (bs.set k x))) (W.setCell ⟨g, k, none⟩ (.int .u8 x.toNat)) := by
  have hown : W.ownsRow 0 5 1 (.slice (some ⟨g, 0, none⟩) bs.length c) bs.length (byt bs) := h.own i hi
  obtain ⟨h1, h2⟩ := hown.stored k (.int .u8 x.toNat)
  have e : (byt bs).set k (.int .u8 x.toNat) = byt (bs.set k x) := by simp [byt, List.map_set]
  rw [e] at h1
  exact h.grown i hi (v' := slB (some ⟨g, 0, none⟩) c (bs.set k x)) (by show World.ownsRow _ 0 _ 1 (.slice _ (bs.set k x).length c) _ _; rw [List.length_set]; exact h1) h2 (.inl rfl)
theorem xor255 (b : UInt8) : bits .xor .u8 (b.toNat : Int) 255 = (((b ^^^ 255).toNat : Nat) : Int) := by
  have h : ∀ k : Fin 256, bits .xor .u8 ((k.val : Nat) : Int) 255 = (((UInt8.ofNat k.val ^^^ 255).toNat : Nat) : Int) := by decide +kernel
  have := h ⟨b.toNat, b.toNat_lt⟩
  simpa using this
theorem eqNd_runF (a0 a1 a2 a3 b0 b1 b2 b3 : Int) (w : World) :
    (Op.equalIn 10000 41 (.agg #[.int .u64 a0, .int .u64 a1, .int .u64 a2, .int .u64 a3]) (.agg #[.int .u64 b0, .int .u64 b1, .int .u64 b2, .int .u64 b3])).run Try.prog w = .ok (a0 == b0 && (a1 == b1 && (a2 == b2 && a3 == b3))) w := by
  have e : ∀ a b : Int, (Op.equalIn 9999 39 (.int .u64 a) (.int .u64 b)).run Try.prog w = .ok (a == b) w := fun a b => run_equalIn_int w 9998 39 .u64 .u64 a b Try.underlying39
  have hs : (sizeOf 39).run Try.prog w = .ok 1 w := by kernel_rfl
  have p : ∀ (x0 x1 x2 x3 : Int), (part 39 #[.int .u64 x0, .int .u64 x1, .int .u64 x2, .int .u64 x3] (0 * 1)).run Try.prog w = .ok (.int .u64 x0) w ∧ (part 39 #[.int .u64 x0, .int .u64 x1, .int .u64 x2, .int .u64 x3] (1 * 1)).run Try.prog w = .ok (.int .u64 x1) w ∧
      (part 39 #[.int .u64 x0, .int .u64 x1, .int .u64 x2, .int .u64 x3] (2 * 1)).run Try.prog w = .ok (.int .u64 x2) w ∧ (part 39 #[.int .u64 x0, .int .u64 x1, .int .u64 x2, .int .u64 x3] (3 * 1)).run Try.prog w = .ok (.int .u64 x3) w := fun x0 x1 x2 x3 =>
    ⟨by kernel_rfl, by kernel_rfl, by kernel_rfl, by kernel_rfl⟩
  show (Op.equalIn (9999 + 1) 41 _ _).run Try.prog w = _
  unfold Op.equalIn
  simp only [Sem.run_bind, run_underlying Try.underlying41, Result.andThen_ok, hs]
  rw [Std.Legacy.Range.forIn_eq_forIn_range']
  simp only [Std.Legacy.Range.size]
  cases h0 : (a0 == b0) <;> cases h1 : (a1 == b1) <;> cases h2 : (a2 == b2) <;> cases h3 : (a3 == b3) <;> simp [List.range', p, e, h0, h1, h2, h3]
theorem eqNd_run' (w : World) : (Op.equalIn 10000 41 (.agg z4) (.agg z4)).run Try.prog w = .ok true w := eqNd_runF 0 0 0 0 0 0 0 0 w
set_option maxRecDepth 100000 in
set_option maxHeartbeats 8000000 in
theorem codeNobody_w (n : Int) (s : ByteArray) (w : World) (hn : -9223372036854775808 ≤ n ∧ n ≤ 9223372036854775807) (hs : s.size ≤ 140737488351232) :
    Calls Try.prog 7 #[.int .i64 n, .string s] w fun e w' => e = .returned (.bool true) ∧ Below w.heap.size w w' := by
  have HS0 := Lib.hid (Ms.nil w noB)
  have HNb := Lib.hid hn
  have HSs := Lib.hid hs
  have HE1 := Lib.hid (fun w' => show (Op.equalIn 10000 30 (.agg (fltA 4 0)) (.agg (fltA 4 0))).run Try.prog w' = .ok true w' by rw [eqFlt_run]; rfl)
  have HE2 := Lib.hid (fun w' => eqNd_run' w')
  clear hn hs
  go_enter Try.func7, Try.ntmps7
  go_wp2_with (refine wpList_build_b rfl (some 13) rfl 3 1 #[.int .i64 n] (by kernel_rfl) ?_; intro g1 W1 hb hB hg; have HS1 := Lib.hid (HS0.out.new hb hB hg); clear hb hB hg HS0)
  refine (nilWInt_c _ _ _ _).mono ?_
  rintro e w' ⟨rfl, rfl⟩
  go_wp2_with (refine wpList_build_b rfl (some 17) rfl 9 1 #[.string s] (by kernel_rfl) ?_; intro g2 W2 hb hB hg; have HS2 := Lib.hid (HS1.out.new hb hB hg); clear hb hB hg HS1)
  refine (nilWText_c _ _ _ _).mono ?_
  rintro e w' ⟨rfl, rfl⟩
  go_wp2_with fail
  refine (nilWNodes_c 1 0 0 0 _).mono ?_
  rintro e W3 ⟨rfl, hb⟩
  have HS3 := Lib.hid (HS2.out.after hb)
  clear hb HS2
  go_wp2_with (first
    | ((with_reducible refine (nilWBytes_c _).mono ?_); rintro e w' ⟨rfl, rfl⟩)
    | ((with_reducible refine (nilRInt_c _).mono ?_); rintro e w' ⟨rfl, rfl⟩)
    | ((with_reducible refine (nilRIn_c _ _ _).mono ?_); rintro e w' ⟨rfl, rfl⟩)
    | ((with_reducible refine (nilRText_c _ _).mono ?_); rintro e w' ⟨rfl, rfl⟩))
  refine (nilRNodes_c _).mono ?_
  rintro e W4 ⟨rfl, hb⟩
  have HS4 := Lib.hid (HS3.out.after hb)
  clear hb HS3
  go_wp2_with (first
    | (refine wpList_neq (by kernel_rfl) 41 _ _ _ rfl rfl rfl (by kernel_rfl) true (HE2.out _) ?_)
    | ((with_reducible refine (nilRLeft_c _).mono ?_); rintro e w' ⟨rfl, rfl⟩))
  refine (nilRFault_c _).mono ?_
  rintro e W5 ⟨rfl, hb⟩
  have HS5 := Lib.hid (HS4.out.after hb)
  clear hb HS4
  go_wp2_with (refine wpList_neq (by kernel_rfl) 30 _ _ _ rfl rfl rfl (by kernel_rfl) true (HE1.out _) ?_)
  refine (nilREnd_c _).mono ?_
  rintro e W6 ⟨rfl, hb⟩
  have HS6 := Lib.hid (HS5.out.after hb)
  clear hb HS5
  go_wp2_with fail
  refine (nilRFault_c _).mono ?_
  rintro e W7 ⟨rfl, hb⟩
  have HS7 := Lib.hid (Ms.cut (l := []) (k := [.blk g1 3 #[.int .i64 n], .blk g2 9 #[.string s]]) (HS6.out.after hb))
  clear hb HS6
  go_wp2_with (first
    | (refine wpList_neq (by kernel_rfl) 30 _ _ _ rfl rfl rfl (by kernel_rfl) true (HE1.out _) ?_)
    | (refine wpList_alloc_b rfl (some 7) rfl 26 #[.slice none 0 0] (by kernel_rfl) ?_; intro g8 W8 hb hB hg; have HS8 := Lib.hid (HS7.out.wrNew hb hB hg); clear hb hB hg HS7)
    | (refine wpList_build_b rfl (some 66) rfl 3 1 #[.int .i64 n] (by kernel_rfl) ?_; intro g9 W9 hb hB hg; have HS9 := Lib.hid (HS8.out.new hb hB hg); clear hb hB hg HS8))
  obtain ⟨b1, hb1⟩ : ∃ b1, b1 = ([] : List UInt8) ++ encL [n] := ⟨_, rfl⟩
  have HB1 := Lib.hid hb1
  have HB1l := Lib.hid (show b1.length ≤ 10 by rw [hb1, encL_one]; simpa using (encI_len HNb.out.1 HNb.out.2).2)
  have hes : (encI ((s.size : Nat) : Int)).length ≤ 10 := (encI_len (by have := HSs.out; omega) (by have := HSs.out; omega)).2
  have hts : (encTs [s]).length = (encI ((s.size : Nat) : Int)).length + s.size := by rw [encTs_one]; unfold encT; rw [List.length_append]; rfl
  obtain ⟨b2, hb2⟩ : ∃ b2, b2 = b1 ++ encTs [s] := ⟨_, rfl⟩
  have HB2 := Lib.hid hb2
  have HB2l := Lib.hid (show b2.length ≤ 140737488351300 by rw [hb2, List.length_append, hts]; have := HB1l.out; have := HSs.out; omega)
  have HL := Lib.hid (show b1.length + (encTs [s]).length ≤ 140737488355000 by rw [hts]; have := HB1l.out; have := HSs.out; omega)
  clear hb1 hb2 hes hts
  refine (wInt_c g8 none 0 [] _ 1 1 [n] _ (HS9.out.ok 0 _ rfl) (lit_int _ (HS9.out.at_ 1 rfl)) (fun x hx => by simp at hx; rw [hx]; exact HNb.out) (fun _ a ha => by cases ha; exact fun h1 => HS9.out.apart 0 1 _ _ rfl rfl (by decide) _ h1 rfl) (by simp)).mono ?_
  rintro e W10 ⟨rfl, A10, c10, hM⟩
  rw [← HB1.out] at hM
  have HS10 := Lib.hid (Ms.cut (l := [.wr g8 A10 c10 b1]) (k := [.blk g9 3 _]) (HS9.out.call 0 rfl hM))
  clear hM HS9
  go_wp2_with (refine wpList_build_b rfl (some 69) rfl 9 1 #[.string s] (by kernel_rfl) ?_; intro g11 W11 hb hB hg; have HS11 := Lib.hid (HS10.out.new hb hB hg); clear hb hB hg HS10)
  refine (wText_c g8 A10 c10 b1 _ 1 1 [s] _ (HS11.out.ok 0 _ rfl) (lit_str _ (HS11.out.at_ 1 rfl)) (by omega) (fun _ a ha => by cases ha; exact fun h1 => HS11.out.apart 0 1 _ _ rfl rfl (by decide) _ h1 rfl) HL.out).mono ?_
  rintro e W12 ⟨rfl, A12, c12, hM⟩
  rw [← HB2.out] at hM
  have HS12 := Lib.hid (Ms.cut (l := [.wr g8 A12 c12 b2]) (k := [.blk g11 9 _]) (HS11.out.call 0 rfl hM))
  clear hM HS11 HB1 HB2 HL
  have hb2I : (b2.length : Int) ≤ 140737488351300 := by have := HB2l.out; omega
  go_wp2_with fail
  refine (wBytes_c g8 A12 c12 b2 _ (HS12.out.ok 0 _ rfl) (by have := HB2l.out; omega)).mono ?_
  rintro e W13 ⟨A13, c13, rfl, hM⟩
  have HS13 := Lib.hid (HS12.out.made hM)
  clear hM HS12
  have hcv := run_bytes_text (c := c13) (rowB_read (HS13.out.ok 1 _ rfl)).1 22 9 5 Try.underlying22 Try.underlying5 Try.underlying9
  go_wp2_with fail
  clear hcv
  go_loopw [76] (fun i wr => ∃ (k : Nat) (cur : List UInt8), k ≤ b2.length ∧ cur.length = b2.length ∧ i = .int .i64 k ∧ Ms w noB [.wr g8 A12 c12 b2, .row 5 1 (.slice A13 b2.length c13) b2.length (byt cur)] wr) (fun i _ => b2.length - (intOf i).toNat)
  case atStart => exact ⟨0, b2, by omega, rfl, rfl, HS13.out⟩
  case round =>
    obtain ⟨k, cur, hk, hcl, rfl, hS⟩ := hrel
    clear HS13
    have HS14 := Lib.hid hS
    have HCL := Lib.hid hcl
    clear hS hcl
    by_cases hlt : k < b2.length
    · have hltI : (k : Int) < (b2.length : Int) := by omega
      have hown := HS14.out.own 1 rfl
      obtain ⟨g13, cap, he, _, _⟩ := hown.form (by omega)
      injection he with he1 _ _
      subst he1
      obtain ⟨x, hx⟩ : ∃ x, x = cur.getD k 0 := ⟨_, rfl⟩
      have hcell : wr.cell? ⟨g13, k, none⟩ = some (.int .u8 (x.toNat : Nat)) := by
        rw [World.ownsRow.cellAt hown k (by omega), hx]
        simp [byt, List.getElem?_eq_getElem (show k < cur.length by rw [HCL.out]; exact hlt), List.getD_eq_getElem?_getD]
      have hfro : wr.frozen? ⟨g13, k, none⟩ = false := World.ownsRow.frozenAt hown k
      clear hown hx
      have hxor := xor255 x
      have hx256 := UInt8.toNat_lt x
      go_wp2_with fail
      clear hxor hcell hfro hx256
      refine ⟨⟨k + 1, cur.set k (x ^^^ 255), by omega, by rw [List.length_set]; exact HCL.out, by go_num, ?_⟩, by simp [intOf]; omega⟩
      have hM := HS14.out
      have hown := hM.own 1 rfl
      obtain ⟨h1, h2⟩ := World.ownsRow.stored hown k (.int .u8 ((x ^^^ 255).toNat : Nat))
      have e : (byt cur).set k (.int .u8 ((x ^^^ 255).toNat : Nat)) = byt (cur.set k (x ^^^ 255)) := by simp [byt, List.map_set]
      rw [e] at h1
      exact hM.grown 1 rfl h1 h2 (.inl rfl)
    · have hltI : ¬ (k : Int) < (b2.length : Int) := by omega
      have HS15 := Lib.hid (Ms.cut (l := [.wr g8 A12 c12 b2]) (k := [.row 5 1 (.slice A13 b2.length c13) b2.length (byt cur)]) HS14.out)
      clear HS14 HCL
      go_wp2_with fail
      refine (wBytes_c g8 A12 c12 b2 _ (HS15.out.ok 0 _ rfl) (by have := HB2l.out; omega)).mono ?_
      rintro e W16 ⟨A16, c16, rfl, hM⟩
      have HS16 := Lib.hid (HS15.out.made hM)
      clear hM HS15
      have hcv := run_bytes_text (c := c16) (rowB_read (HS16.out.ok 1 _ rfl)).1 22 9 5 Try.underlying22 Try.underlying5 Try.underlying9
      go_wp2_with fail
      refine (alive_c _).mono ?_
      rintro e W17 ⟨rfl, hb⟩
      have HS17 := Lib.hid (HS16.out.after hb)
      clear hb HS16
      go_wp2
      go_ret
      exact ⟨rfl, HS17.out.below⟩
end Go.Proofs.Ytphmaimgpolaoaa
