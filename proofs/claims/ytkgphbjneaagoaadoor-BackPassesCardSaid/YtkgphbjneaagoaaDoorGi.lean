/- Back: theirs, ours, Same, wish. -/
import Derived.Test.YtkgphbjneaagoaaDoorGa
set_option linter.unusedVariables false
set_option maxRecDepth 100000
namespace Go.Proofs.YtkgphbjneaagoaaDoor
open Go.RowKit Go.Sort

theorem eq_arr9 (a0 a1 a2 a3 b0 b1 b2 b3 : Int) (w : World) :
    (Op.equalIn 9999 24 (.agg #[.int .u64 a0, .int .u64 a1, .int .u64 a2, .int .u64 a3]) (.agg #[.int .u64 b0, .int .u64 b1, .int .u64 b2, .int .u64 b3])).run Tryd.prog w = .ok (a0 == b0 && (a1 == b1 && (a2 == b2 && a3 == b3))) w := by
  have e : ∀ a b : Int, (Op.equalIn 9998 22 (.int .u64 a) (.int .u64 b)).run Tryd.prog w = .ok (a == b) w := fun a b => run_equalIn_int w 9997 22 .u64 .u64 a b Tryd.underlying22
  have hs : (sizeOf 22).run Tryd.prog w = .ok 1 w := by kernel_rfl
  have p : ∀ (x0 x1 x2 x3 : Int), (part 22 #[.int .u64 x0, .int .u64 x1, .int .u64 x2, .int .u64 x3] (0 * 1)).run Tryd.prog w = .ok (.int .u64 x0) w ∧ (part 22 #[.int .u64 x0, .int .u64 x1, .int .u64 x2, .int .u64 x3] (1 * 1)).run Tryd.prog w = .ok (.int .u64 x1) w ∧
      (part 22 #[.int .u64 x0, .int .u64 x1, .int .u64 x2, .int .u64 x3] (2 * 1)).run Tryd.prog w = .ok (.int .u64 x2) w ∧ (part 22 #[.int .u64 x0, .int .u64 x1, .int .u64 x2, .int .u64 x3] (3 * 1)).run Tryd.prog w = .ok (.int .u64 x3) w := fun x0 x1 x2 x3 =>
    ⟨by kernel_rfl, by kernel_rfl, by kernel_rfl, by kernel_rfl⟩
  show (Op.equalIn (9998 + 1) 24 _ _).run Tryd.prog w = _
  unfold Op.equalIn
  simp only [Sem.run_bind, run_underlying Tryd.underlying24, Result.andThen_ok, hs]
  rw [Std.Legacy.Range.forIn_eq_forIn_range']
  simp only [Std.Legacy.Range.size]
  cases h0 : (a0 == b0) <;> cases h1 : (a1 == b1) <;> cases h2 : (a2 == b2) <;> cases h3 : (a3 == b3) <;> simp [List.range', p, e, h0, h1, h2, h3]
set_option maxHeartbeats 4000000 in
theorem eqPl_self (a : Pl) (w : World) : (Op.equalIn 10000 60 (plV a) (plV a)).run Tryd.prog w = .ok true w := by
  show (Op.equalIn (9999 + 1) 60 _ _).run Tryd.prog w = _
  rw [run_equalIn_struct w 9999 _ _ _ (by kernel_rfl) (by kernel_rfl)]
  have e : ∀ x y : Int, (Op.equalIn 9999 3 (.int .i64 x) (.int .i64 y)).run Tryd.prog w = .ok (x == y) w := fun x y => run_equalIn_int w 9998 3 .i64 .i64 x y Tryd.underlying3
  have e2 : (Op.equalIn 9999 24 (nsV a.nodes) (nsV a.nodes)).run Tryd.prog w = .ok true w := by rw [eq_arr9]; simp
  have a0 : (part 3 (plA a) 0).run Tryd.prog w = .ok (.int .i64 a.id) w := by kernel_rfl
  have a1 : (part 3 (plA a) 1).run Tryd.prog w = .ok (.int .i64 a.at_) w := by kernel_rfl
  have a2 : (part 24 (plA a) 2).run Tryd.prog w = .ok (nsV a.nodes) w := by kernel_rfl
  have hf : ∃ n0 n1 n2 : String, (n0 ≠ "_" ∧ n1 ≠ "_" ∧ n2 ≠ "_") ∧ (Tryd.prog.fieldsOf 60).toList.map (fun f => (f.name, f.type, f.offset)) = [(n0, 3, 0), (n1, 3, 1), (n2, 24, 2)] :=
    ⟨"Id", "At", "Nodes", by decide, by kernel_rfl⟩
  obtain ⟨n0, n1, n2, ⟨k0, k1, k2⟩, hf⟩ := hf
  obtain ⟨fs, hfs⟩ : ∃ fs, fs = (Tryd.prog.fieldsOf 60).toList := ⟨_, rfl⟩
  rw [← hfs] at hf ⊢
  match fs, hf with
  | [f0, f1, f2], hf =>
    simp only [List.map_cons, List.map_nil, List.cons.injEq, Prod.mk.injEq, and_true] at hf
    obtain ⟨⟨x0, y0, z0⟩, ⟨x1, y1, z1⟩, ⟨x2, y2, z2⟩⟩ := hf
    simp only [Op.eqFields, x0, x1, x2, y0, y1, y2, z0, z1, z2, ne_eq, k0, k1, k2, not_false_eq_true, if_true, Sem.run_bind, a0, a1, a2, Result.andThen_ok, e, e2, Sem.run_ite, Sem.run_pure, beq_self_eq_true]
    rfl
set_option maxHeartbeats 32000000 in
theorem theirs_c (now : Int) (up : NS) (A : Option Addr) (n c : Nat) (rs : List Ru) (B : Option Addr) (m d : Nat) (ws : List Wi) (w : World) (hA : RdR w A n rs) (hB : RdW w B m ws) (hn : n ≤ 2000000000000) (hm : m ≤ 2000000000000) :
    Calls Tryd.prog 12 #[scV now up A n c B m d] w fun e w' => ∃ A' c' B' d', e = .returned (scV now up A' n c' B' m d') ∧ RdR w' A' n rs ∧ RdW w' B' m ws ∧ Below w.heap.size w w' := by
  have HA := Lib.hid hA
  have HB := Lib.hid hB
  have HLr := Lib.hid (show rs.length = n from hA.1)
  have HLw := Lib.hid (show ws.length = m from hB.1)
  have HN := Lib.hid (And.intro hn hm)
  have hnI : (n : Int) ≤ 9223372036854775807 := by have := hA.2.1; omega
  have hmI : (m : Int) ≤ 9223372036854775807 := by have := hB.2.1; omega
  clear hA hB hn hm
  go_enter Tryd.func12, Tryd.ntmps12
  have HS0 := Lib.hid (Ms.nil w noB)
  go_wp2_with (first
    | (have hq := HS0; clear hq; (with_reducible refine atBox ?_); refine wpList_alloc_b rfl (some 1) rfl 28 ((scA now up A n c B m d)) (by kernel_rfl) ?_; intro g1 W1 hb hB hg; have HS1 := Lib.hid (HS0.out.new hb hB hg); clear hb hB hg HS0)
    | (have hq := HS1; clear hq; (with_reducible refine atAlloc ?_); refine wpList_alloc_b rfl (some 2) rfl 38 (#[.int .i64 0, .int .u64 0, .int .u64 0, .int .u64 0, .int .u64 0, .slice none 0 0, .slice none 0 0]) (by kernel_rfl) ?_; intro g2 W2 hb hB hg; have HS2 := Lib.hid (HS1.out.new hb hB hg); clear hb hB hg HS1; obtain ⟨r0a, r0b, r0c⟩ := HS2.out.rules 0 rfl)
    | (have hq := HS2; clear hq; (with_reducible refine atLoad ?_); refine wpList_load_at rfl 24 _ rfl (HS2.out.at_ 0 rfl) 4 (.agg #[.int .u64 (wn up 0 : Nat), .int .u64 (wn up 1 : Nat), .int .u64 (wn up 2 : Nat), .int .u64 (wn up 3 : Nat)]) rfl _ Tryd.underlying24 rfl (by kernel_rfl) (Nat.le_of_ble_eq_true rfl) rfl ?_)
    | (have hq := HS2; clear hq; (with_reducible refine atAlloc ?_); refine wpList_alloc_b rfl (some 3) rfl 38 (#[.int .i64 0, .int .u64 0, .int .u64 0, .int .u64 0, .int .u64 0, .slice none 0 0, .slice none 0 0]) (by kernel_rfl) ?_; intro g3 W3 hb hB hg; have HS3 := Lib.hid (HS2.out.new hb hB hg); clear hb hB hg HS2; clear r0a r0b r0c)
    | (have hq := HS3; clear hq; (with_reducible refine atStore ?_); refine wpList_store_at rfl 38 _ _ rfl (HS3.out.at_ 2 rfl) (.agg #[.int .i64 now, .int .u64 (wn up 0 : Nat), .int .u64 (wn up 1 : Nat), .int .u64 (wn up 2 : Nat), .int .u64 (wn up 3 : Nat), .slice none 0 0, .slice none 0 0]) rfl rfl (by kernel_rfl) (Nat.le_of_ble_eq_true rfl) (by kernel_rfl) ?_; intro W4 hB hP; have HS4 := Lib.hid (HS3.out.put 2 rfl (new := #[.int .i64 now, .int .u64 (wn up 0 : Nat), .int .u64 (wn up 1 : Nat), .int .u64 (wn up 2 : Nat), .int .u64 (wn up 3 : Nat), .slice none 0 0, .slice none 0 0]) hB hP); clear hB hP HS3; obtain ⟨r0a, r0b, r0c⟩ := HS4.out.rules 0 rfl))
  have HS5 := Lib.hid (HS4.out.nilS 77 5 ruL)
  clear HS4 r0a r0b r0c
  go_loopw [16] (fun k wr => ∃ (kk : Nat) (A2 : Option Addr) (c2 : Nat), kk ≤ n ∧ k = .int .i64 (kk : Nat) ∧ Hid (Ms w noB [(.blk g1 28 (scA now up A n c B m d)), (.blk g2 38 #[.int .i64 0, .int .u64 0, .int .u64 0, .int .u64 0, .int .u64 0, .slice none 0 0, .slice none 0 0]), .blk g3 38 #[.int .i64 now, .int .u64 (wn up 0 : Nat), .int .u64 (wn up 1 : Nat), .int .u64 (wn up 2 : Nat), .int .u64 (wn up 3 : Nat), .slice A2 (rs.take kk).length c2, .slice none 0 0], rowS 77 5 ruL A2 c2 (rs.take kk)] wr)) (fun k _ => n - (intOf k).toNat)
  case atStart => exact ⟨0, _, _, by omega, rfl, HS5⟩
  case round =>
    obtain ⟨k, A2, c2, hkn, rfl, HS6⟩ := hrel
    by_cases hlt : k < n
    · have hltI : (k : Int) < (n : Int) := by omega
      obtain ⟨ad, x, hAe, hx, hc⟩ := (HA.out.below HS6.out.below).at_ hlt
      subst hAe
      have HC := Lib.hid hc
      have HRX := Lib.hid (take_one hx)
      obtain ⟨R, hR⟩ : ∃ R, R = rs.take k := ⟨_, rfl⟩
      rw [← hR] at HS6 HRX
      have HRL := Lib.hid (show (R.length + 1) * 40 ≤ 140737488355328 by rw [hR, List.length_take]; have := HN.out.1; omega)
      clear hc hx hR
      go_wp2_with (first
        | (have hq := HC; clear hq; refine wpList_load_ad (by kernel_rfl) 55 _ rfl (ad.add (k * 5)) ((ruL x)) HC.out rfl _ (ruV x) rfl Tryd.underlying55 rfl (by kernel_rfl) ?_; clear HC)
        | (have hq := HS6; clear hq; (with_reducible refine atAlloc ?_); refine wpList_alloc_b rfl (some 5) rfl 55 (#[.int .u64 0, .int .u64 0, .int .u64 0, .int .u64 0, .int .i64 0]) (by kernel_rfl) ?_; intro g7 W7 hb hB hg; have HS7 := Lib.hid (HS6.out.new hb hB hg); clear hb hB hg HS6)
        | (have hq := HS7; clear hq; (with_reducible refine atStore ?_); refine wpList_store_at rfl 55 _ _ rfl (HS7.out.at_ 4 rfl) (ruV x) rfl rfl (by kernel_rfl) (Nat.le_of_ble_eq_true rfl) (by kernel_rfl) ?_; intro W8 hB hP; have HS8 := Lib.hid (HS7.out.put 4 rfl (new := (ruA x)) hB hP); clear hB hP HS7; obtain ⟨r2a, r2b, r2c⟩ := HS8.out.rules 2 rfl; obtain ⟨r4a, r4b, r4c⟩ := HS8.out.rules 4 rfl)
        | (have hq := HS8; clear hq; (with_reducible refine atLoad ?_); refine wpList_load_at rfl 24 _ rfl (HS8.out.at_ 4 rfl) 4 (.agg #[.int .u64 (wn x.nodes 0 : Nat), .int .u64 (wn x.nodes 1 : Nat), .int .u64 (wn x.nodes 2 : Nat), .int .u64 (wn x.nodes 3 : Nat)]) rfl _ Tryd.underlying24 rfl (by kernel_rfl) (Nat.le_of_ble_eq_true rfl) rfl ?_)
        | (have hq := HS8; clear hq; (with_reducible refine atBuild ?_); refine wpList_build_b rfl (some 27) rfl 77 1 (#[.int .u64 (wn x.nodes 0 : Nat), .int .u64 (wn x.nodes 1 : Nat), .int .u64 (wn x.nodes 2 : Nat), .int .u64 (wn x.nodes 3 : Nat), .int .i64 x.end_]) (by kernel_rfl) ?_; intro g9 W9 hb hB hg; have HS9 := Lib.hid (HS8.out.new hb hB hg); clear hb hB hg HS8; clear r2a r2b r2c r4a r4b r4c)
        | (have hq := HS9; clear hq; refine append_one HS9.out 3 5 rfl _ _ 35 77 5 40 ruL (.agg #[.int .u64 0, .int .u64 0, .int .u64 0, .int .u64 0, .int .i64 0]) rfl Tryd.underlying35 (by kernel_rfl) rfl (by decide) A2 c2 R x g9 _ _ rfl rfl rfl rfl rfl rfl rfl (HRL.out) (by simp only [maxLen]; have := HRL.out; omega) ?_; intro A10 c10 W10 hM; have HS10 := Lib.hid hM; clear hM HS9)
        | (have hq := HS10; clear hq; (with_reducible refine atStore ?_); refine wpList_store_at rfl 35 _ _ rfl (HS10.out.at_ 2 rfl) (.slice A10 (R.length + 1) c10) rfl rfl (by kernel_rfl) (Nat.le_of_ble_eq_true rfl) (by kernel_rfl) ?_; intro W11 hB hP; have HS11 := Lib.hid (HS10.out.put 2 rfl (new := #[.int .i64 now, .int .u64 (wn up 0 : Nat), .int .u64 (wn up 1 : Nat), .int .u64 (wn up 2 : Nat), .int .u64 (wn up 3 : Nat), .slice A10 (R.length + 1) c10, .slice none 0 0]) hB hP); clear hB hP HS10))
      refine ⟨⟨k + 1, A10, c10, by omega, by go_num, ?_⟩, by simp [intOf]; omega⟩
      rw [HRX.out, show (R ++ [x]).length = R.length + 1 by simp]
      exact Lib.hid (Ms.cut (l := [(.blk g1 28 (scA now up (some ad) n c B m d)), (.blk g2 38 #[.int .i64 0, .int .u64 0, .int .u64 0, .int .u64 0, .int .u64 0, .slice none 0 0, .slice none 0 0]), (.blk g3 38 #[.int .i64 now, .int .u64 (wn up 0 : Nat), .int .u64 (wn up 1 : Nat), .int .u64 (wn up 2 : Nat), .int .u64 (wn up 3 : Nat), .slice A10 (R.length + 1) c10, .slice none 0 0]), rowS 77 5 ruL A10 c10 (R ++ [x])]) (k := [(.blk g7 55 (ruA x)), (.blk g9 77 #[.int .u64 (wn x.nodes 0 : Nat), .int .u64 (wn x.nodes 1 : Nat), .int .u64 (wn x.nodes 2 : Nat), .int .u64 (wn x.nodes 3 : Nat), .int .i64 x.end_])]) HS11.out)
    · obtain rfl : k = n := by omega
      have HQ := HS6.out
      rw [List.take_of_length_le (by rw [HLr.out]; exact Nat.le_refl _)] at HQ
      have HS7 := Lib.hid HQ
      clear HQ HS6
      have HS8 := Lib.hid (HS7.out.nilS 68 7 wiL)
      clear HS7
      obtain ⟨r0a, r0b, r0c⟩ := HS8.out.rules 0 rfl
      go_wp2_with fail
      clear r0a r0b r0c
      go_loopw [34] (fun j wr => ∃ (kk : Nat) (B2 : Option Addr) (d2 : Nat), kk ≤ m ∧ j = .int .i64 (kk : Nat) ∧ Hid (Ms w noB [(.blk g1 28 (scA now up A k c B m d)), (.blk g2 38 #[.int .i64 0, .int .u64 0, .int .u64 0, .int .u64 0, .int .u64 0, .slice none 0 0, .slice none 0 0]), .blk g3 38 #[.int .i64 now, .int .u64 (wn up 0 : Nat), .int .u64 (wn up 1 : Nat), .int .u64 (wn up 2 : Nat), .int .u64 (wn up 3 : Nat), .slice A2 rs.length c2, .slice B2 (ws.take kk).length d2], rowS 77 5 ruL A2 c2 rs, rowS 68 7 wiL B2 d2 (ws.take kk)] wr)) (fun j _ => m - (intOf j).toNat)
      case atStart => exact ⟨0, _, _, by omega, rfl, HS8⟩
      case round =>
        obtain ⟨j, B2, d2, hjm, rfl, HS9⟩ := hrel
        by_cases hlt2 : j < m
        · have hltI : (j : Int) < (m : Int) := by omega
          obtain ⟨ad, x, hBe, hx, hc⟩ := (HB.out.below HS9.out.below).at_ hlt2
          subst hBe
          have HC := Lib.hid hc
          have HRX := Lib.hid (take_one hx)
          obtain ⟨R, hR⟩ : ∃ R, R = ws.take j := ⟨_, rfl⟩
          rw [← hR] at HS9 HRX
          have HRL := Lib.hid (show (R.length + 1) * 56 ≤ 140737488355328 by rw [hR, List.length_take]; have := HN.out.2; omega)
          clear hc hx hR
          go_wp2_with (first
            | (have hq := HC; clear hq; refine wpList_load_ad (by kernel_rfl) 49 _ rfl (ad.add (j * 7)) ((wiL x)) HC.out rfl _ (wiV x) rfl Tryd.underlying49 rfl (by kernel_rfl) ?_; clear HC)
            | (have hq := HS9; clear hq; (with_reducible refine atAlloc ?_); refine wpList_alloc_b rfl (some 7) rfl 49 (#[.int .i64 0, .int .i64 0, .int .i64 0, .int .u64 0, .int .u64 0, .int .u64 0, .int .u64 0]) (by kernel_rfl) ?_; intro g10 W10 hb hB hg; have HS10 := Lib.hid (HS9.out.new hb hB hg); clear hb hB hg HS9)
            | (have hq := HS10; clear hq; (with_reducible refine atStore ?_); refine wpList_store_at rfl 49 _ _ rfl (HS10.out.at_ 5 rfl) (wiV x) rfl rfl (by kernel_rfl) (Nat.le_of_ble_eq_true rfl) (by kernel_rfl) ?_; intro W11 hB hP; have HS11 := Lib.hid (HS10.out.put 5 rfl (new := (wiA x)) hB hP); clear hB hP HS10; obtain ⟨r2a, r2b, r2c⟩ := HS11.out.rules 2 rfl; obtain ⟨r5a, r5b, r5c⟩ := HS11.out.rules 5 rfl)
            | (have hq := HS11; clear hq; (with_reducible refine atLoad ?_); refine wpList_load_at rfl 24 _ rfl (HS11.out.at_ 5 rfl) 4 (.agg #[.int .u64 (wn x.of 0 : Nat), .int .u64 (wn x.of 1 : Nat), .int .u64 (wn x.of 2 : Nat), .int .u64 (wn x.of 3 : Nat)]) rfl _ Tryd.underlying24 rfl (by kernel_rfl) (Nat.le_of_ble_eq_true rfl) rfl ?_)
            | (have hq := HS11; clear hq; (with_reducible refine atBuild ?_); refine wpList_build_b rfl (some 49) rfl 68 1 (#[.int .i64 x.id, .int .i64 x.n, .int .i64 x.long, .int .u64 (wn x.of 0 : Nat), .int .u64 (wn x.of 1 : Nat), .int .u64 (wn x.of 2 : Nat), .int .u64 (wn x.of 3 : Nat)]) (by kernel_rfl) ?_; intro g12 W12 hb hB hg; have HS12 := Lib.hid (HS11.out.new hb hB hg); clear hb hB hg HS11; clear r2a r2b r2c r5a r5b r5c)
            | (have hq := HS12; clear hq; refine append_one HS12.out 4 6 rfl _ _ 36 68 7 56 wiL (.agg #[.int .i64 0, .int .i64 0, .int .i64 0, .int .u64 0, .int .u64 0, .int .u64 0, .int .u64 0]) rfl Tryd.underlying36 (by kernel_rfl) rfl (by decide) B2 d2 R x g12 _ _ rfl rfl rfl rfl rfl rfl rfl (HRL.out) (by simp only [maxLen]; have := HRL.out; omega) ?_; intro A13 c13 W13 hM; have HS13 := Lib.hid hM; clear hM HS12)
            | (have hq := HS13; clear hq; (with_reducible refine atStore ?_); refine wpList_store_at rfl 36 _ _ rfl (HS13.out.at_ 2 rfl) (.slice A13 (R.length + 1) c13) rfl rfl (by kernel_rfl) (Nat.le_of_ble_eq_true rfl) (by kernel_rfl) ?_; intro W14 hB hP; have HS14 := Lib.hid (HS13.out.put 2 rfl (new := #[.int .i64 now, .int .u64 (wn up 0 : Nat), .int .u64 (wn up 1 : Nat), .int .u64 (wn up 2 : Nat), .int .u64 (wn up 3 : Nat), .slice A2 rs.length c2, .slice A13 (R.length + 1) c13]) hB hP); clear hB hP HS13))
          refine ⟨⟨j + 1, A13, c13, by omega, by go_num, ?_⟩, by simp [intOf]; omega⟩
          rw [HRX.out, show (R ++ [x]).length = R.length + 1 by simp]
          exact Lib.hid (Ms.cut (l := [(.blk g1 28 (scA now up A k c (some ad) m d)), (.blk g2 38 #[.int .i64 0, .int .u64 0, .int .u64 0, .int .u64 0, .int .u64 0, .slice none 0 0, .slice none 0 0]), (.blk g3 38 #[.int .i64 now, .int .u64 (wn up 0 : Nat), .int .u64 (wn up 1 : Nat), .int .u64 (wn up 2 : Nat), .int .u64 (wn up 3 : Nat), .slice A2 rs.length c2, .slice A13 (R.length + 1) c13]), rowS 77 5 ruL A2 c2 rs, rowS 68 7 wiL A13 c13 (R ++ [x])]) (k := [(.blk g10 49 (wiA x)), (.blk g12 68 #[.int .i64 x.id, .int .i64 x.n, .int .i64 x.long, .int .u64 (wn x.of 0 : Nat), .int .u64 (wn x.of 1 : Nat), .int .u64 (wn x.of 2 : Nat), .int .u64 (wn x.of 3 : Nat)])]) HS14.out)
        · obtain rfl : j = m := by omega
          have HQ := HS9.out
          rw [List.take_of_length_le (by rw [HLw.out]; exact Nat.le_refl _)] at HQ
          have HS10 := Lib.hid HQ
          clear HQ HS9
          go_wp2_with (first
            | (have hq := HS10; clear hq; (with_reducible refine atLoad ?_); refine wpList_load_at rfl 38 _ rfl (HS10.out.at_ 2 rfl) 7 (.agg #[.int .i64 now, .int .u64 (wn up 0 : Nat), .int .u64 (wn up 1 : Nat), .int .u64 (wn up 2 : Nat), .int .u64 (wn up 3 : Nat), .slice A2 rs.length c2, .slice B2 ws.length d2]) rfl _ Tryd.underlying38 rfl (by kernel_rfl) (Nat.le_of_ble_eq_true rfl) rfl ?_)
            | (have hq := HS10; clear hq; (with_reducible refine atStore ?_); refine wpList_store_at rfl 38 _ _ rfl (HS10.out.at_ 1 rfl) (.agg #[.int .i64 now, .int .u64 (wn up 0 : Nat), .int .u64 (wn up 1 : Nat), .int .u64 (wn up 2 : Nat), .int .u64 (wn up 3 : Nat), .slice A2 rs.length c2, .slice B2 ws.length d2]) rfl rfl (by kernel_rfl) (Nat.le_of_ble_eq_true rfl) (by kernel_rfl) ?_; intro W11 hB hP; have HS11 := Lib.hid (HS10.out.put 1 rfl (new := #[.int .i64 now, .int .u64 (wn up 0 : Nat), .int .u64 (wn up 1 : Nat), .int .u64 (wn up 2 : Nat), .int .u64 (wn up 3 : Nat), .slice A2 rs.length c2, .slice B2 ws.length d2]) hB hP); clear hB hP HS10))
          exact post_cell rfl rfl (HS11.out.at_ 1 rfl) Tryd.underlying38 rfl (by kernel_rfl) rfl ⟨A2, c2, B2, d2, by rw [← HLr.out, ← HLw.out], by rw [← HLr.out]; exact rowS_read (fun _ => rfl) (HS11.out.ok 3 _ rfl), by rw [← HLw.out]; exact rowS_read (fun _ => rfl) (HS11.out.ok 4 _ rfl), HS11.out.below⟩
set_option maxHeartbeats 32000000 in
theorem ours_c (A : Option Addr) (n c : Nat) (l : List Pl) (w : World) (hA : RdPl w A n l) (hn : n ≤ 2000000000000) :
    Calls Tryd.prog 15 #[.slice A n c] w fun e w' => ∃ A' c', e = .returned (.slice A' n c') ∧ RdPl w' A' n l ∧ Below w.heap.size w w' := by
  have HA := Lib.hid hA
  have HLr := Lib.hid (show l.length = n from hA.1)
  have HN := Lib.hid hn
  have hnI : (n : Int) ≤ 9223372036854775807 := by have := hA.2.1; omega
  clear hA hn
  go_enter Tryd.func15, Tryd.ntmps15
  have HS0 := Lib.hid (Ms.nil w noB)
  go_wp2_with fail
  have HS1 := Lib.hid (HS0.out.nilS 60 6 plL)
  clear HS0
  go_loopw [8, 3] (fun k b wr => ∃ (kk : Nat) (A2 : Option Addr) (c2 : Nat), kk ≤ n ∧ k = .int .i64 (kk : Nat) ∧ b = .slice A2 (l.take kk).length c2 ∧ Hid (Ms w noB [rowS 60 6 plL A2 c2 (l.take kk)] wr)) (fun k _ _ => n - (intOf k).toNat)
  case atStart => exact ⟨0, _, _, by omega, rfl, rfl, HS1⟩
  case round =>
    obtain ⟨k, A2, c2, hkn, rfl, rfl, HS2⟩ := hrel
    by_cases hlt : k < n
    · have hltI : (k : Int) < (n : Int) := by omega
      obtain ⟨ad, x, hAe, hx, hc⟩ := (HA.out.below HS2.out.below).at_ hlt
      subst hAe
      have HC := Lib.hid hc
      have HRX := Lib.hid (take_one hx)
      obtain ⟨R, hR⟩ : ∃ R, R = l.take k := ⟨_, rfl⟩
      rw [← hR] at HS2 HRX
      try rw [← hR]
      have HRL := Lib.hid (show (R.length + 1) * 48 ≤ 140737488355328 by rw [hR, List.length_take]; have := HN.out; omega)
      clear hc hx hR
      go_wp2_with (first
        | (have hq := HC; clear hq; refine wpList_load_ad (by kernel_rfl) 47 _ rfl (ad.add (k * 6)) ((plL x)) HC.out rfl _ (plV x) rfl Tryd.underlying47 rfl (by kernel_rfl) ?_; clear HC)
        | (have hq := HS2; clear hq; (with_reducible refine atAlloc ?_); refine wpList_alloc_b rfl (some 5) rfl 47 (#[.int .i64 0, .int .i64 0, .int .u64 0, .int .u64 0, .int .u64 0, .int .u64 0]) (by kernel_rfl) ?_; intro g3 W3 hb hB hg; have HS3 := Lib.hid (HS2.out.new hb hB hg); clear hb hB hg HS2)
        | (have hq := HS3; clear hq; (with_reducible refine atStore ?_); refine wpList_store_at rfl 47 _ _ rfl (HS3.out.at_ 1 rfl) (plV x) rfl rfl (by kernel_rfl) (Nat.le_of_ble_eq_true rfl) (by kernel_rfl) ?_; intro W4 hB hP; have HS4 := Lib.hid (HS3.out.put 1 rfl (new := (plA x)) hB hP); clear hB hP HS3; obtain ⟨r1a, r1b, r1c⟩ := HS4.out.rules 1 rfl)
        | (have hq := HS4; clear hq; (with_reducible refine atLoad ?_); refine wpList_load_at rfl 24 _ rfl (HS4.out.at_ 1 rfl) 4 (.agg #[.int .u64 (wn x.nodes 0 : Nat), .int .u64 (wn x.nodes 1 : Nat), .int .u64 (wn x.nodes 2 : Nat), .int .u64 (wn x.nodes 3 : Nat)]) rfl _ Tryd.underlying24 rfl (by kernel_rfl) (Nat.le_of_ble_eq_true rfl) rfl ?_)
        | (have hq := HS4; clear hq; (with_reducible refine atBuild ?_); refine wpList_build_b rfl (some 20) rfl 60 1 (#[.int .i64 x.id, .int .i64 x.at_, .int .u64 (wn x.nodes 0 : Nat), .int .u64 (wn x.nodes 1 : Nat), .int .u64 (wn x.nodes 2 : Nat), .int .u64 (wn x.nodes 3 : Nat)]) (by kernel_rfl) ?_; intro g5 W5 hb hB hg; have HS5 := Lib.hid (HS4.out.new hb hB hg); clear hb hB hg HS4; clear r1a r1b r1c)
        | (have hq := HS5; clear hq; refine append_one HS5.out 0 2 rfl _ _ 40 60 6 48 plL (.agg #[.int .i64 0, .int .i64 0, .int .u64 0, .int .u64 0, .int .u64 0, .int .u64 0]) rfl Tryd.underlying40 (by kernel_rfl) rfl (by decide) A2 c2 R x g5 _ _ rfl rfl rfl rfl rfl rfl rfl (HRL.out) (by simp only [maxLen]; have := HRL.out; omega) ?_; intro A6 c6 W6 hM; have HS6 := Lib.hid hM; clear hM HS5))
      refine ⟨⟨k + 1, A6, c6, by omega, by go_num, by rw [HRX.out, show (R ++ [x]).length = R.length + 1 by simp], ?_⟩, by simp [intOf]; omega⟩
      rw [HRX.out]
      exact Lib.hid (Ms.cut (l := [rowS 60 6 plL A6 c6 (R ++ [x])]) (k := [(.blk g3 47 (plA x)), (.blk g5 60 #[.int .i64 x.id, .int .i64 x.at_, .int .u64 (wn x.nodes 0 : Nat), .int .u64 (wn x.nodes 1 : Nat), .int .u64 (wn x.nodes 2 : Nat), .int .u64 (wn x.nodes 3 : Nat)])]) HS6.out)
    · obtain rfl : k = n := by omega
      have HQ := HS2.out
      rw [List.take_of_length_le (by rw [HLr.out]; exact Nat.le_refl _)] at HQ
      have HS3 := Lib.hid HQ
      clear HQ HS2
      go_wp2_with fail
      go_ret
      exact ⟨A2, c2, by rw [List.take_of_length_le (by rw [HLr.out]; exact Nat.le_refl _), HLr.out]; rfl, by rw [← HLr.out]; exact rowS_read (fun _ => rfl) (HS3.out.ok 0 _ rfl), HS3.out.below⟩
set_option maxHeartbeats 16000000 in
theorem same_c (A : Option Addr) (n c : Nat) (B : Option Addr) (d : Nat) (l : List Pl) (w : World) (hA : RdPl w A n l) (hB : RdPl w B n l) :
    Calls Tryd.prog 14 #[.slice A n c, .slice B n d] w fun e w' => e = .returned (.bool true) ∧ Below w.heap.size w w' := by
  have HA := Lib.hid hA
  have HB := Lib.hid hB
  have hnI : (n : Int) ≤ 9223372036854775807 := by have := hA.2.1; omega
  clear hA hB
  go_enter Tryd.func14, Tryd.ntmps14
  have HS0 := Lib.hid (Ms.nil w noB)
  go_wp2_with fail
  go_loopw [5] (fun k wr => ∃ kk : Nat, kk ≤ n ∧ k = .int .i64 (kk : Nat) ∧ Hid (Ms w noB [] wr)) (fun k _ => n - (intOf k).toNat)
  case atStart => exact ⟨0, by omega, rfl, HS0⟩
  case round =>
    obtain ⟨k, hkn, rfl, HS1⟩ := hrel
    by_cases hlt : k < n
    · have hltI : (k : Int) < (n : Int) := by omega
      obtain ⟨ad, x, hAe, hx, hc⟩ := HA.out.at_ hlt
      obtain ⟨bd, y, hBe, hy, hd⟩ := HB.out.at_ hlt
      obtain rfl : y = x := by rw [hx] at hy; cases hy; rfl
      subst hAe
      subst hBe
      have HC := Lib.hid hc
      have HD := Lib.hid hd
      have HEQ := Lib.hid (fun w9 => show (Op.equalIn 10000 60 (plV y) (plV y)).run Tryd.prog w9 = .ok true w9 from eqPl_self y w9)
      clear hc hd hx hy
      go_wp2_with fail
      go_wp2_with fail
      refine region_b (Ms w noB _) (by kernel_rfl) (by kernel_rfl) HS1.out ?_
      clear HS1
      intro W2 hS
      have HCQ := Lib.hid (fun j v hv => (hS.below.cell (block_lt_of_cell (HC.out j v hv))).trans (HC.out j v hv))
      have HDQ := Lib.hid (fun j v hv => (hS.below.cell (block_lt_of_cell (HD.out j v hv))).trans (HD.out j v hv))
      have HS2 := Lib.hid hS
      clear hS
      repeat (first | go_big_quiet_skip | (refine wpQuiet_load_ad (by kernel_rfl) 60 _ rfl (ad.add (k * 6)) (plL y) (by simp) HCQ.out rfl _ (plV y) rfl Tryd.underlying60 rfl (by kernel_rfl) ?_) | (refine wpQuiet_load_ad (by kernel_rfl) 60 _ rfl (bd.add (k * 6)) (plL y) (by simp) HDQ.out rfl _ (plV y) rfl Tryd.underlying60 rfl (by kernel_rfl) ?_) | (refine wpQuiet_neq (by kernel_rfl) 60 _ _ _ rfl rfl rfl (by kernel_rfl) true (fun w9 => HEQ.out w9) ?_) | go_big_quiet_step (fail) | quiet_step (fail))
      refine wpQuiet_nil ?_
      intro W3 hb
      have HS3 := Lib.hid (HS2.out.after hb)
      clear hb HS2 HCQ HDQ
      go_wp2_with fail
      go_wp2_with fail
      exact ⟨⟨k + 1, by omega, by go_num, HS3⟩, by simp [intOf]; omega⟩
    · obtain rfl : k = n := by omega
      go_wp2_with fail
      go_ret
      exact ⟨rfl, HS1.out.below⟩
set_option maxHeartbeats 16000000 in
theorem wish_c (now : Int) (up : NS) (A : Option Addr) (n c : Nat) (B : Option Addr) (m d : Nat) (ws : List Wi) (k0 : Nat) (y : Wi) (w : World) (hB : RdW w B m ws) (hk : ws[k0]? = some y) (hne : ∀ j, j < k0 → ∀ x, ws[j]? = some x → x.id ≠ y.id) :
    Calls Tryd.prog 16 #[scV now up A n c B m d, .int .i64 y.id] w fun e w' => e = .returned (.tuple #[wiV y, .bool true]) ∧ Below w.heap.size w w' := by
  have HB := Lib.hid hB
  have hmI : (m : Int) ≤ 9223372036854775807 := by have := hB.2.1; omega
  have HK := Lib.hid hk
  have HNE := Lib.hid hne
  have hk0 : k0 < m := by have := (List.getElem?_eq_some_iff.1 hk).1; have := hB.1; omega
  clear hB hk hne
  go_enter Tryd.func16, Tryd.ntmps16
  have HS0 := Lib.hid (Ms.nil w noB)
  go_wp2_with (first
    | (have hq := HS0; clear hq; (with_reducible refine atBox ?_); refine wpList_alloc_b rfl (some 2) rfl 28 ((scA now up A n c B m d)) (by kernel_rfl) ?_; intro g1 W1 hb hB hg; have HS1 := Lib.hid (HS0.out.new hb hB hg); clear hb hB hg HS0)
    | (have hq := HS1; clear hq; (with_reducible refine atAlloc ?_); refine wpList_alloc_b rfl (some 4) rfl 49 (#[.int .i64 0, .int .i64 0, .int .i64 0, .int .u64 0, .int .u64 0, .int .u64 0, .int .u64 0]) (by kernel_rfl) ?_; intro g2 W2 hb hB hg; have HS2 := Lib.hid (HS1.out.new hb hB hg); clear hb hB hg HS1; obtain ⟨r0a, r0b, r0c⟩ := HS2.out.rules 0 rfl))
  clear r0a r0b r0c
  go_loopw [11] (fun k wr => ∃ kk : Nat, kk ≤ k0 ∧ k = .int .i64 (kk : Nat) ∧ Hid (Ms w noB [(.blk g1 28 (scA now up A n c B m d)), (.blk g2 49 #[.int .i64 0, .int .i64 0, .int .i64 0, .int .u64 0, .int .u64 0, .int .u64 0, .int .u64 0])] wr)) (fun k _ => m - (intOf k).toNat)
  case atStart => exact ⟨0, by omega, rfl, HS2⟩
  case round =>
    obtain ⟨k, hkn, rfl, HS3⟩ := hrel
    have hlt : k < m := by omega
    have hltI : (k : Int) < (m : Int) := by omega
    obtain ⟨ad, x, hBe, hx, hc⟩ := (HB.out.below HS3.out.below).at_ hlt
    subst hBe
    have HC := Lib.hid hc
    clear hc
    by_cases hkk : k = k0
    · subst hkk
      obtain rfl : x = y := by have h := HK.out; rw [hx] at h; cases h; rfl
      clear hx
      go_wp2_with (first
        | (have hq := HC; clear hq; refine wpList_load_ad (by kernel_rfl) 49 _ rfl (ad.add (k * 7)) ((wiL x)) HC.out rfl _ (wiV x) rfl Tryd.underlying49 rfl (by kernel_rfl) ?_; clear HC)
        | (have hq := HS3; clear hq; (with_reducible refine atAlloc ?_); refine wpList_alloc_b rfl (some 7) rfl 49 (#[.int .i64 0, .int .i64 0, .int .i64 0, .int .u64 0, .int .u64 0, .int .u64 0, .int .u64 0]) (by kernel_rfl) ?_; intro g4 W4 hb hB hg; have HS4 := Lib.hid (HS3.out.new hb hB hg); clear hb hB hg HS3)
        | (have hq := HS4; clear hq; (with_reducible refine atStore ?_); refine wpList_store_at rfl 49 _ _ rfl (HS4.out.at_ 2 rfl) (wiV x) rfl rfl (by kernel_rfl) (Nat.le_of_ble_eq_true rfl) (by kernel_rfl) ?_; intro W5 hB hP; have HS5 := Lib.hid (HS4.out.put 2 rfl (new := (wiA x)) hB hP); clear hB hP HS4; obtain ⟨r2a, r2b, r2c⟩ := HS5.out.rules 2 rfl)
        | (have hq := HS5; clear hq; (with_reducible refine atLoad ?_); refine wpList_load_at rfl 49 _ rfl (HS5.out.at_ 2 rfl) 7 (wiV x) rfl _ Tryd.underlying49 rfl (by kernel_rfl) (Nat.le_of_ble_eq_true rfl) rfl ?_)
        | (have hq := HS5; clear hq; (with_reducible refine atStore ?_); refine wpList_store_at rfl 49 _ _ rfl (HS5.out.at_ 1 rfl) (wiV x) rfl rfl (by kernel_rfl) (Nat.le_of_ble_eq_true rfl) (by kernel_rfl) ?_; intro W6 hB hP; have HS6 := Lib.hid (HS5.out.put 1 rfl (new := (wiA x)) hB hP); clear hB hP HS5; clear r2a r2b r2c))
      exact post_cell_tmp (x := .bool true) rfl rfl rfl (HS6.out.at_ 1 rfl) Tryd.underlying49 rfl (by kernel_rfl) rfl ⟨rfl, HS6.out.below⟩
    · have hlt0 : k < k0 := by omega
      have hid : decide (x.id = y.id) = false := decide_eq_false (HNE.out k hlt0 x hx)
      have hid2 := HNE.out k hlt0 x hx
      clear hx hkk
      go_wp2_with (first
        | (have hq := HC; clear hq; refine wpList_load_ad (by kernel_rfl) 49 _ rfl (ad.add (k * 7)) ((wiL x)) HC.out rfl _ (wiV x) rfl Tryd.underlying49 rfl (by kernel_rfl) ?_; clear HC)
        | (have hq := HS3; clear hq; (with_reducible refine atAlloc ?_); refine wpList_alloc_b rfl (some 7) rfl 49 (#[.int .i64 0, .int .i64 0, .int .i64 0, .int .u64 0, .int .u64 0, .int .u64 0, .int .u64 0]) (by kernel_rfl) ?_; intro g4 W4 hb hB hg; have HS4 := Lib.hid (HS3.out.new hb hB hg); clear hb hB hg HS3)
        | (have hq := HS4; clear hq; (with_reducible refine atStore ?_); refine wpList_store_at rfl 49 _ _ rfl (HS4.out.at_ 2 rfl) (wiV x) rfl rfl (by kernel_rfl) (Nat.le_of_ble_eq_true rfl) (by kernel_rfl) ?_; intro W5 hB hP; have HS5 := Lib.hid (HS4.out.put 2 rfl (new := (wiA x)) hB hP); clear hB hP HS4; obtain ⟨r2a, r2b, r2c⟩ := HS5.out.rules 2 rfl))
      exact ⟨⟨k + 1, by omega, by go_num, Lib.hid (Ms.cut (l := [(.blk g1 28 (scA now up A n c (some ad) m d)), (.blk g2 49 #[.int .i64 0, .int .i64 0, .int .i64 0, .int .u64 0, .int .u64 0, .int .u64 0, .int .u64 0])]) (k := [(.blk g4 49 (wiA x))]) HS5.out)⟩, by simp [intOf]; omega⟩
end Go.Proofs.YtkgphbjneaagoaaDoor
