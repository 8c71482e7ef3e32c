/- Share: ok, later, user, Used. -/
import Derived.Test.YtflgnlpippjhcaaUb
import Derived.Test.YtflgnlpippjhcaaUa
import Derived.Test.YtflgnlpippjhcaaU2
import Derived.Laws.Cover3
set_option linter.unusedVariables false
set_option maxRecDepth 100000
namespace Go.Proofs.Ytflgnlpippjhcaa
open Go.RowKit Go.Sort Go.Maps

theorem post_cell_tmp2 {P : Program} {fn : Func} {R : Ending → World → Prop} {a : Act} {w : World} {p g u q : Nat} {ty t : TypeId} {cs : Array Value} {d : TypeDesc} {x y : Value} (h : fn.results = #[.cell p ty, .tmp u, .tmp q])
    (hp : a.tmps.getD p undef = .pointer (some ⟨g, 0, none⟩)) (hu' : a.tmps.getD u undef = x) (hq' : a.tmps.getD q undef = y) (hB : Blk w g t cs) (hu : P.underlying ty = some d) (hd : (match d with | .struct _ | .array _ _ => true | _ => false) = true)
    (hi : (P.info? ty).map (·.size) = some cs.size) (hdf : a.defers = []) (hR : R (.returned (.tuple #[.agg cs, x, y])) w) : bodyPost P fn R .ret a w := by
  have hp' : a.tmps[p]?.getD undef = .pointer (some ⟨g, 0, none⟩) := by simpa using hp
  have hx' : a.tmps[u]?.getD undef = x := by simpa using hu'
  have hy' : a.tmps[q]?.getD undef = y := by simpa using hq'
  exact bodyPost_ret (v := .tuple #[.agg cs, x, y]) (by simp [results, h, hp', hx', hy', asAddr, run_loadVar_row w g t ty cs (0, 0) d hB hu hd hi]) hdf hR
theorem wrap_small {x : Int} (h0 : -9223372036854775808 ≤ x) (h1 : x ≤ 9223372036854775807) : IntKind.i64.wrap x = x := by
  simp only [IntKind.wrap, IntKind.signed, IntKind.bits]
  simp
  omega
theorem map_some (b : Nat) (w : World) : (binOp .neq 54 (.map (some b)) (.map none)).run Try.prog w = .ok (.bool true) w := run_neq_map_nil _ _ _ _ _ Try.underlying54
theorem map_none (w : World) : (binOp .neq 54 (.map none) (.map none)).run Try.prog w = .ok (.bool false) w := run_neq_map_nil _ _ _ _ _ Try.underlying54
theorem ac_has (x : Ac) (w : World) : (Instr.field 66 (acV x) 0).run Try.prog w = .ok (.int .i64 x.has) w := by kernel_rfl
theorem ok_c (g b : Nat) (half : Int) (L : Led) (w : World) (hR : LdR w g b half L) : Calls Try.prog 39 #[.pointer (some ⟨g, 0, none⟩)] w fun e w' => e = .returned (.bool true) ∧ Below w.heap.size w w' := by
  have HR := Lib.hid hR
  obtain ⟨ob, hob, hst⟩ := hR.start
  have HB := Lib.hid hR.blk
  have HO := Lib.hid hob
  have HOK := Lib.hid hR.ok
  have HST := Lib.hid hst
  clear hR hob hst
  go_enter Try.func39, Try.ntmps39
  have HS0 := Lib.hid (HST.out)
  clear HST
  have hmn := map_some b
  obtain ⟨r0a, r0b, r0c⟩ := HS0.out.rules 0 rfl
  go_wp2_with fail
  go_ret
  exact ⟨rfl, HS0.out.stillR HB.out HO.out⟩
/-- A ledger that nobody made. -/
def Nob (w : World) (p : Option Addr) : Prop := p = none ∨ ∃ g h, p = some ⟨g, 0, none⟩ ∧ Blk w g lgT #[h, .map none]
theorem Nob.below {w w' : World} {p : Option Addr} (h : Nob w p) (hb : Below w.heap.size w w') : Nob w' p := h.imp id (fun ⟨g, x, e, hB⟩ => ⟨g, x, e, hB.after hb⟩)
theorem ok_n (p : Option Addr) (w : World) (hN : Nob w p) : Calls Try.prog 39 #[.pointer p] w fun e w' => e = .returned (.bool false) ∧ Below w.heap.size w w' := by
  rcases hN with rfl | ⟨g, h, rfl, hB⟩
  · go_enter Try.func39, Try.ntmps39
    go_wp2_with fail
    go_ret
    exact ⟨rfl, Below.refl _ _⟩
  · obtain ⟨r1, r2, r3⟩ := hB.rules
    have hmn := map_none
    go_enter Try.func39, Try.ntmps39
    go_wp2_with fail
    go_ret
    exact ⟨rfl, Below.refl _ _⟩
set_option maxHeartbeats 4000000 in
theorem later_c (g b : Nat) (half : Int) (L : Led) (a : Ac) (now : Int) (w : World) (hR : LdR w g b half L) (ha : AcOk a) (h : a.at_ ≤ now) (hn : now ≤ 1099511627776) : Calls Try.prog 30 #[.pointer (some ⟨g, 0, none⟩), acV a, .int .i64 now] w fun e w' => e = .returned (acV (lat half a now)) ∧ Below w.heap.size w w' := by
  have hp := perd_bounds hR.ok.half.1 h
  have hh := hR.ok.half
  have hl := lat_ok hR.ok.half.1 ha h hn
  have h0 := ha.h0; have h1 := ha.h1; have t0 := ha.t0; have t1 := ha.t1
  have hm : 0 ≤ perd half a now * half := Int.mul_nonneg hp.1 (by omega)
  obtain ⟨q, hq⟩ : ∃ q, q = perd half a now := ⟨_, rfl⟩
  have HL := Lib.hid (show lat half a now = ⟨halvesV a.has q, a.at_ + q * half⟩ by rw [hq]; rfl)
  have hq1 : (now - a.at_).tdiv half = q := hq.symm
  rw [← hq] at hp hm
  have HHv := Lib.hid (fun w => halves_c a.has q (by unfold inI; omega) w)
  have w1 : IntKind.i64.wrap (now - a.at_) = now - a.at_ := wrap_small (by omega) (by omega)
  have w2 : IntKind.i64.wrap q = q := wrap_small (by omega) (by omega)
  have w3 : IntKind.i64.wrap (q * half) = q * half := wrap_small (by omega) (by omega)
  have w4 : IntKind.i64.wrap (a.at_ + q * half) = a.at_ + q * half := wrap_small (by omega) (by omega)
  have hz : (half == 0) = false := beq_false_of_ne (by omega)
  have hz2 : ¬ half = 0 := by omega
  have HQ := Lib.hid hq
  clear hl h0 h1 t0 t1 hm hp hh ha h hn hq
  have HR := Lib.hid hR
  obtain ⟨ob, hob, hst⟩ := hR.start
  have HB := Lib.hid hR.blk
  have HO := Lib.hid hob
  have HOK := Lib.hid hR.ok
  have HST := Lib.hid hst
  clear hR hob hst
  go_enter Try.func30, Try.ntmps30
  have HS0 := Lib.hid (HST.out)
  clear HST
  go_wp2_with (first
    | (have hq := HS0; clear hq; (with_reducible refine atBox ?_); refine wpList_alloc_b rfl (some 4) rfl 66 ((acA a)) (by kernel_rfl) ?_; intro g1 W1 hb hB hg; have HS1 := Lib.hid (HS0.out.new hb hB hg); clear hb hB hg HS0)
    | (have hq := HS1; clear hq; (with_reducible refine atAlloc ?_); refine wpList_alloc_b rfl (some 6) rfl 66 (#[.int .i64 0, .int .i64 0]) (by kernel_rfl) ?_; intro g2 W2 hb hB hg; have HS2 := Lib.hid (HS1.out.new hb hB hg); clear hb hB hg HS1))
  refine region_b (Ms w (exR g b) _) (by kernel_rfl) (by kernel_rfl) HS2.out ?_
  clear HS2
  intro W3 hS
  have q2 := hS.on 2 rfl
  have q0 := hS.on 0 rfl
  have HS3 := Lib.hid hS
  clear hS
  repeat (first | go_big_quiet_skip | go_big_quiet_step (fail) | quiet_step (fail))
  refine wpQuiet_nil ?_
  intro W4 hb
  have HS4 := Lib.hid (HS3.out.after hb)
  clear hb HS3 q2 q0
  go_wp2_with fail
  go_wp2_with fail
  refine region_bt 14 (Ms w (exR g b) _) (by kernel_rfl) (by kernel_rfl) HS4.out ?_
  clear HS4
  intro W5 hS
  have q2 := hS.on 2 rfl
  have q0 := hS.on 0 rfl
  have HC0 := Lib.hid (fun (d : Nat) (os : Array Obj) => below_of (HHv.out (grow (redrawn W5 d) os)))
  have HS5 := Lib.hid hS
  clear hS
  simp only [List.take_succ_cons, List.take_zero, List.drop_succ_cons, List.drop_zero]
  repeat (first | go_big_quiet_skip | go_big_quiet_step (first | with_reducible exact Calls.regrown_of (HC0.out _ _)) | quiet_step (first | with_reducible exact Calls.regrown_of (HC0.out _ _)))
  refine wpQuiet_nil ?_
  intro W6 hb
  have HS6 := Lib.hid (HS5.out.after hb)
  clear hb HS5 q2 q0 HC0
  refine wpList_store_at rfl 66 _ _ rfl (HS6.out.at_ 3 rfl) (.agg #[.int .i64 (halvesV a.has q), .int .i64 (a.at_ + q * half)]) rfl rfl (by kernel_rfl) (Nat.le_of_ble_eq_true rfl) (by kernel_rfl) ?_
  intro W7 hB hP
  have HS7 := Lib.hid (HS6.out.put 3 rfl (new := #[.int .i64 (halvesV a.has q), .int .i64 (a.at_ + q * half)]) hB hP)
  clear hB hP HS6
  go_wp2_with fail
  exact post_cell rfl rfl (HS7.out.at_ 3 rfl) Try.underlying66 rfl (by kernel_rfl) rfl ⟨by rw [HL.out], HS7.out.stillR HB.out HO.out⟩
set_option maxHeartbeats 4000000 in
theorem user_y (g b : Nat) (half : Int) (L : Led) (n : Nm) (now : Int) (w : World) (hR : LdR w g b half L) (hn : n.length ≤ maxLen) (hu : userE L n now = 0) : Calls Try.prog 29 #[.pointer (some ⟨g, 0, none⟩), str n, .int .i64 now] w fun e w' => e = .returned (.tuple #[acV (acc L n), .bool (look L n).isSome, .int .i64 0]) ∧ Below w.heap.size w w' := by
  obtain ⟨⟨h0, h1⟩, h2⟩ := userE_zero.1 hu
  obtain ⟨c, hc⟩ : ∃ c, c = acc L n := ⟨_, rfl⟩
  obtain ⟨r, hr⟩ : ∃ r, r = (look L n).isSome := ⟨_, rfl⟩
  have HC := Lib.hid hc.symm
  have HRr := Lib.hid hr.symm
  have HNL := Lib.hid hn
  rw [← hc, ← hr]
  rw [← hc] at h2
  clear hc hr hn hu
  have HR := Lib.hid hR
  obtain ⟨ob, hob, hst⟩ := hR.start
  have HB := Lib.hid hR.blk
  have HO := Lib.hid hob
  have HOK := Lib.hid hR.ok
  have HST := Lib.hid hst
  clear hR hob hst
  go_enter Try.func29, Try.ntmps29
  have HS0 := Lib.hid (HST.out)
  clear HST
  go_wp2_with (have hq := HS0; clear hq; (with_reducible refine atAlloc ?_); refine wpList_alloc_b rfl (some 6) rfl 66 (#[.int .i64 0, .int .i64 0]) (by kernel_rfl) ?_; intro g1 W1 hb hB hg; have HS1 := Lib.hid (HS0.out.new hb hB hg); clear hb hB hg HS0)
  refine (ok_c g b half L _ (HS1.out.ldR 0 1 rfl rfl HOK.out)).mono ?_
  rintro e W2 ⟨rfl, hb⟩
  have HS2 := Lib.hid (HS1.out.after hb)
  clear hb HS1
  obtain ⟨r0a, r0b, r0c⟩ := HS2.out.rules 0 rfl
  go_wp2_with (first
    | (have hq := HS2; clear hq; refine wpList_lookMp (HS2.out.ok 1 _ rfl).2 (by kernel_rfl) _ _ 54 Try.underlying54 rfl n rfl rfl HNL.out c r HC.out HRr.out ?_; clear r0a r0b r0c)
    | (have hq := HS2; clear hq; (with_reducible refine atAlloc ?_); refine wpList_alloc_b rfl (some 9) rfl 66 (#[.int .i64 0, .int .i64 0]) (by kernel_rfl) ?_; intro g3 W3 hb hB hg; have HS3 := Lib.hid (HS2.out.new hb hB hg); clear hb hB hg HS2)
    | (have hq := HS3; clear hq; (with_reducible refine atStore ?_); refine wpList_store_at rfl 66 _ _ rfl (HS3.out.at_ 3 rfl) (acV c) rfl rfl (by kernel_rfl) (Nat.le_of_ble_eq_true rfl) (by kernel_rfl) ?_; intro W4 hB hP; have HS4 := Lib.hid (HS3.out.put 3 rfl (new := (acA c)) hB hP); clear hB hP HS3; obtain ⟨r3a, r3b, r3c⟩ := HS4.out.rules 3 rfl)
    | (have hq := HS4; clear hq; (with_reducible refine atLoad ?_); refine wpList_load_at rfl 66 _ rfl (HS4.out.at_ 3 rfl) 2 (acV c) rfl _ Try.underlying66 rfl (by kernel_rfl) (Nat.le_of_ble_eq_true rfl) rfl ?_)
    | (have hq := HS4; clear hq; (with_reducible refine atStore ?_); refine wpList_store_at rfl 66 _ _ rfl (HS4.out.at_ 2 rfl) (acV c) rfl rfl (by kernel_rfl) (Nat.le_of_ble_eq_true rfl) (by kernel_rfl) ?_; intro W5 hB hP; have HS5 := Lib.hid (HS4.out.put 2 rfl (new := (acA c)) hB hP); clear hB hP HS4; clear r3a r3b r3c))
  exact post_cell_tmp2 (x := .bool r) (y := .int .i64 0) rfl rfl rfl rfl (HS5.out.at_ 2 rfl) Try.underlying66 rfl (by kernel_rfl) rfl ⟨rfl, HS5.out.stillR HB.out HO.out⟩
set_option maxHeartbeats 4000000 in
theorem user_n (g b : Nat) (half : Int) (L : Led) (n : Nm) (now : Int) (w : World) (hR : LdR w g b half L) (hn : n.length ≤ maxLen) (hu : userE L n now = 1) : Calls Try.prog 29 #[.pointer (some ⟨g, 0, none⟩), str n, .int .i64 now] w fun e w' => e = .returned (.tuple #[acV ⟨0, 0⟩, .bool false, .int .i64 1]) ∧ Below w.heap.size w w' := by
  have hu2 : ¬ (timeP now ∧ (acc L n).at_ ≤ now) := fun h => by rw [userE_zero.2 h] at hu; omega
  obtain ⟨c, hc⟩ : ∃ c, c = acc L n := ⟨_, rfl⟩
  obtain ⟨r, hr⟩ : ∃ r, r = (look L n).isSome := ⟨_, rfl⟩
  have HC := Lib.hid hc.symm
  have HRr := Lib.hid hr.symm
  have HNL := Lib.hid hn
  rw [← hc] at hu2
  clear hc hr hn hu
  have HR := Lib.hid hR
  obtain ⟨ob, hob, hst⟩ := hR.start
  have HB := Lib.hid hR.blk
  have HO := Lib.hid hob
  have HOK := Lib.hid hR.ok
  have HST := Lib.hid hst
  clear hR hob hst
  by_cases h0 : now < 0
  · go_enter Try.func29, Try.ntmps29
    have HS0 := Lib.hid (HST.out)
    clear HST
    go_wp2_with (have hq := HS0; clear hq; (with_reducible refine atAlloc ?_); refine wpList_alloc_b rfl (some 6) rfl 66 (#[.int .i64 0, .int .i64 0]) (by kernel_rfl) ?_; intro g1 W1 hb hB hg; have HS1 := Lib.hid (HS0.out.new hb hB hg); clear hb hB hg HS0)
    refine (ok_c g b half L _ (HS1.out.ldR 0 1 rfl rfl HOK.out)).mono ?_
    rintro e W2 ⟨rfl, hb⟩
    have HS2 := Lib.hid (HS1.out.after hb)
    clear hb HS1
    obtain ⟨r0a, r0b, r0c⟩ := HS2.out.rules 0 rfl
    go_wp2_with (first
      | (have hq := HS2; clear hq; refine wpList_lookMp (HS2.out.ok 1 _ rfl).2 (by kernel_rfl) _ _ 54 Try.underlying54 rfl n rfl rfl HNL.out c r HC.out HRr.out ?_; clear r0a r0b r0c)
      | (have hq := HS2; clear hq; (with_reducible refine atAlloc ?_); refine wpList_alloc_b rfl (some 9) rfl 66 (#[.int .i64 0, .int .i64 0]) (by kernel_rfl) ?_; intro g3 W3 hb hB hg; have HS3 := Lib.hid (HS2.out.new hb hB hg); clear hb hB hg HS2)
      | (have hq := HS3; clear hq; (with_reducible refine atStore ?_); refine wpList_store_at rfl 66 _ _ rfl (HS3.out.at_ 3 rfl) (acV c) rfl rfl (by kernel_rfl) (Nat.le_of_ble_eq_true rfl) (by kernel_rfl) ?_; intro W4 hB hP; have HS4 := Lib.hid (HS3.out.put 3 rfl (new := (acA c)) hB hP); clear hB hP HS3)
      | (have hq := HS4; clear hq; (with_reducible refine atStore ?_); refine wpList_store_at rfl 66 _ _ rfl (HS4.out.at_ 2 rfl) (.agg #[.int .i64 0, .int .i64 0]) rfl rfl (by kernel_rfl) (Nat.le_of_ble_eq_true rfl) (by kernel_rfl) ?_; intro W5 hB hP; have HS5 := Lib.hid (HS4.out.put 2 rfl (new := #[.int .i64 0, .int .i64 0]) hB hP); clear hB hP HS4))
    exact post_cell_tmp2 (x := .bool false) (y := .int .i64 1) rfl rfl rfl rfl (HS5.out.at_ 2 rfl) Try.underlying66 rfl (by kernel_rfl) rfl ⟨rfl, HS5.out.stillR HB.out HO.out⟩
  · have h0n : 0 ≤ now := by omega
    by_cases h1 : 1099511627776 < now
    · go_enter Try.func29, Try.ntmps29
      have HS0 := Lib.hid (HST.out)
      clear HST
      go_wp2_with (have hq := HS0; clear hq; (with_reducible refine atAlloc ?_); refine wpList_alloc_b rfl (some 6) rfl 66 (#[.int .i64 0, .int .i64 0]) (by kernel_rfl) ?_; intro g1 W1 hb hB hg; have HS1 := Lib.hid (HS0.out.new hb hB hg); clear hb hB hg HS0)
      refine (ok_c g b half L _ (HS1.out.ldR 0 1 rfl rfl HOK.out)).mono ?_
      rintro e W2 ⟨rfl, hb⟩
      have HS2 := Lib.hid (HS1.out.after hb)
      clear hb HS1
      obtain ⟨r0a, r0b, r0c⟩ := HS2.out.rules 0 rfl
      go_wp2_with (first
        | (have hq := HS2; clear hq; refine wpList_lookMp (HS2.out.ok 1 _ rfl).2 (by kernel_rfl) _ _ 54 Try.underlying54 rfl n rfl rfl HNL.out c r HC.out HRr.out ?_; clear r0a r0b r0c)
        | (have hq := HS2; clear hq; (with_reducible refine atAlloc ?_); refine wpList_alloc_b rfl (some 9) rfl 66 (#[.int .i64 0, .int .i64 0]) (by kernel_rfl) ?_; intro g3 W3 hb hB hg; have HS3 := Lib.hid (HS2.out.new hb hB hg); clear hb hB hg HS2)
        | (have hq := HS3; clear hq; (with_reducible refine atStore ?_); refine wpList_store_at rfl 66 _ _ rfl (HS3.out.at_ 3 rfl) (acV c) rfl rfl (by kernel_rfl) (Nat.le_of_ble_eq_true rfl) (by kernel_rfl) ?_; intro W4 hB hP; have HS4 := Lib.hid (HS3.out.put 3 rfl (new := (acA c)) hB hP); clear hB hP HS3)
        | (have hq := HS4; clear hq; (with_reducible refine atStore ?_); refine wpList_store_at rfl 66 _ _ rfl (HS4.out.at_ 2 rfl) (.agg #[.int .i64 0, .int .i64 0]) rfl rfl (by kernel_rfl) (Nat.le_of_ble_eq_true rfl) (by kernel_rfl) ?_; intro W5 hB hP; have HS5 := Lib.hid (HS4.out.put 2 rfl (new := #[.int .i64 0, .int .i64 0]) hB hP); clear hB hP HS4))
      exact post_cell_tmp2 (x := .bool false) (y := .int .i64 1) rfl rfl rfl rfl (HS5.out.at_ 2 rfl) Try.underlying66 rfl (by kernel_rfl) rfl ⟨rfl, HS5.out.stillR HB.out HO.out⟩
    · have h1n : now ≤ 1099511627776 := by omega
      have h2 : now < c.at_ := by
        rcases Int.lt_or_le now c.at_ with h | h
        · exact h
        · exact absurd ⟨⟨h0n, h1n⟩, h⟩ hu2
      clear hu2
      go_enter Try.func29, Try.ntmps29
      have HS0 := Lib.hid (HST.out)
      clear HST
      go_wp2_with (have hq := HS0; clear hq; (with_reducible refine atAlloc ?_); refine wpList_alloc_b rfl (some 6) rfl 66 (#[.int .i64 0, .int .i64 0]) (by kernel_rfl) ?_; intro g1 W1 hb hB hg; have HS1 := Lib.hid (HS0.out.new hb hB hg); clear hb hB hg HS0)
      refine (ok_c g b half L _ (HS1.out.ldR 0 1 rfl rfl HOK.out)).mono ?_
      rintro e W2 ⟨rfl, hb⟩
      have HS2 := Lib.hid (HS1.out.after hb)
      clear hb HS1
      obtain ⟨r0a, r0b, r0c⟩ := HS2.out.rules 0 rfl
      go_wp2_with (first
        | (have hq := HS2; clear hq; refine wpList_lookMp (HS2.out.ok 1 _ rfl).2 (by kernel_rfl) _ _ 54 Try.underlying54 rfl n rfl rfl HNL.out c r HC.out HRr.out ?_; clear r0a r0b r0c)
        | (have hq := HS2; clear hq; (with_reducible refine atAlloc ?_); refine wpList_alloc_b rfl (some 9) rfl 66 (#[.int .i64 0, .int .i64 0]) (by kernel_rfl) ?_; intro g3 W3 hb hB hg; have HS3 := Lib.hid (HS2.out.new hb hB hg); clear hb hB hg HS2)
        | (have hq := HS3; clear hq; (with_reducible refine atStore ?_); refine wpList_store_at rfl 66 _ _ rfl (HS3.out.at_ 3 rfl) (acV c) rfl rfl (by kernel_rfl) (Nat.le_of_ble_eq_true rfl) (by kernel_rfl) ?_; intro W4 hB hP; have HS4 := Lib.hid (HS3.out.put 3 rfl (new := (acA c)) hB hP); clear hB hP HS3; obtain ⟨r3a, r3b, r3c⟩ := HS4.out.rules 3 rfl)
        | (have hq := HS4; clear hq; (with_reducible refine atStore ?_); refine wpList_store_at rfl 66 _ _ rfl (HS4.out.at_ 2 rfl) (.agg #[.int .i64 0, .int .i64 0]) rfl rfl (by kernel_rfl) (Nat.le_of_ble_eq_true rfl) (by kernel_rfl) ?_; intro W5 hB hP; have HS5 := Lib.hid (HS4.out.put 2 rfl (new := #[.int .i64 0, .int .i64 0]) hB hP); clear hB hP HS4; clear r3a r3b r3c))
      exact post_cell_tmp2 (x := .bool false) (y := .int .i64 1) rfl rfl rfl rfl (HS5.out.at_ 2 rfl) Try.underlying66 rfl (by kernel_rfl) rfl ⟨rfl, HS5.out.stillR HB.out HO.out⟩
set_option maxHeartbeats 4000000 in
theorem used_y (g b : Nat) (half : Int) (L : Led) (n : Nm) (now : Int) (w : World) (hR : LdR w g b half L) (hn : n.length ≤ maxLen) (hu : userE L n now = 0) : Calls Try.prog 16 #[.pointer (some ⟨g, 0, none⟩), str n, .int .i64 now] w fun e w' => e = .returned (.tuple #[.int .i64 (usedV half L n now), .int .i64 0]) ∧ Below w.heap.size w w' := by
  have HNL := Lib.hid hn
  have HU := Lib.hid hu
  have HT := Lib.hid (userE_zero.1 hu)
  have HAc := Lib.hid (hR.ok.acc n)
  have HV := Lib.hid (show usedV half L n now = (lat half (acc L n) now).has by unfold usedV; rw [if_pos hu])
  clear hn hu
  have HR := Lib.hid hR
  obtain ⟨ob, hob, hst⟩ := hR.start
  have HB := Lib.hid hR.blk
  have HO := Lib.hid hob
  have HOK := Lib.hid hR.ok
  have HST := Lib.hid hst
  clear hR hob hst
  go_enter Try.func16, Try.ntmps16
  have HS0 := Lib.hid (HST.out)
  clear HST
  have hfl := ac_has (lat half (acc L n) now)
  go_wp2_with fail
  refine (user_y g b half L n now _ (HS0.out.ldR 0 1 rfl rfl HOK.out) HNL.out HU.out).mono ?_
  rintro e W1 ⟨rfl, hb⟩
  have HS1 := Lib.hid (HS0.out.after hb)
  clear hb HS0
  go_wp2_with (first
    | (have hq := HS1; clear hq; (with_reducible refine atAlloc ?_); refine wpList_alloc_b rfl (some 8) rfl 66 (#[.int .i64 0, .int .i64 0]) (by kernel_rfl) ?_; intro g2 W2 hb hB hg; have HS2 := Lib.hid (HS1.out.new hb hB hg); clear hb hB hg HS1)
    | (have hq := HS2; clear hq; (with_reducible refine atStore ?_); refine wpList_store_at rfl 66 _ _ rfl (HS2.out.at_ 2 rfl) (acV (acc L n)) rfl rfl (by kernel_rfl) (Nat.le_of_ble_eq_true rfl) (by kernel_rfl) ?_; intro W3 hB hP; have HS3 := Lib.hid (HS2.out.put 2 rfl (new := (acA (acc L n))) hB hP); clear hB hP HS2)
    | (have hq := HS3; clear hq; (with_reducible refine atLoad ?_); refine wpList_load_at rfl 66 _ rfl (HS3.out.at_ 2 rfl) 2 (acV (acc L n)) rfl _ Try.underlying66 rfl (by kernel_rfl) (Nat.le_of_ble_eq_true rfl) rfl ?_))
  refine (later_c g b half L (acc L n) now _ (HS3.out.ldR 0 1 rfl rfl HOK.out) HAc.out HT.out.2 HT.out.1.2).mono ?_
  rintro e W4 ⟨rfl, hb⟩
  have HS4 := Lib.hid (HS3.out.after hb)
  clear hb HS3
  go_wp2_with fail
  go_ret2
  exact ⟨by rw [HV.out]; rfl, HS4.out.stillR HB.out HO.out⟩
set_option maxHeartbeats 4000000 in
theorem used_n (g b : Nat) (half : Int) (L : Led) (n : Nm) (now : Int) (w : World) (hR : LdR w g b half L) (hn : n.length ≤ maxLen) (hu : userE L n now = 1) : Calls Try.prog 16 #[.pointer (some ⟨g, 0, none⟩), str n, .int .i64 now] w fun e w' => e = .returned (.tuple #[.int .i64 (0), .int .i64 1]) ∧ Below w.heap.size w w' := by
  have HNL := Lib.hid hn
  have HU := Lib.hid hu
  clear hn hu
  have HR := Lib.hid hR
  obtain ⟨ob, hob, hst⟩ := hR.start
  have HB := Lib.hid hR.blk
  have HO := Lib.hid hob
  have HOK := Lib.hid hR.ok
  have HST := Lib.hid hst
  clear hR hob hst
  go_enter Try.func16, Try.ntmps16
  have HS0 := Lib.hid (HST.out)
  clear HST
  go_wp2_with fail
  refine (user_n g b half L n now _ (HS0.out.ldR 0 1 rfl rfl HOK.out) HNL.out HU.out).mono ?_
  rintro e W1 ⟨rfl, hb⟩
  have HS1 := Lib.hid (HS0.out.after hb)
  clear hb HS0
  go_wp2_with (first
    | (have hq := HS1; clear hq; (with_reducible refine atAlloc ?_); refine wpList_alloc_b rfl (some 8) rfl 66 (#[.int .i64 0, .int .i64 0]) (by kernel_rfl) ?_; intro g2 W2 hb hB hg; have HS2 := Lib.hid (HS1.out.new hb hB hg); clear hb hB hg HS1)
    | (have hq := HS2; clear hq; (with_reducible refine atStore ?_); refine wpList_store_at rfl 66 _ _ rfl (HS2.out.at_ 2 rfl) (acV (⟨0, 0⟩ : Ac)) rfl rfl (by kernel_rfl) (Nat.le_of_ble_eq_true rfl) (by kernel_rfl) ?_; intro W3 hB hP; have HS3 := Lib.hid (HS2.out.put 2 rfl (new := (acA (⟨0, 0⟩ : Ac))) hB hP); clear hB hP HS2))
  go_ret2
  exact ⟨rfl, HS3.out.stillR HB.out HO.out⟩
end Go.Proofs.Ytflgnlpippjhcaa
