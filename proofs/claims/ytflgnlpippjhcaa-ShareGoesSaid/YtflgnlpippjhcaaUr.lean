/- Cut by program (cut_tpl.py) out of my templates XC7 XC8 XC9 XCa. -/
import Derived.Test.YtflgnlpippjhcaaUw
import Derived.Test.YtflgnlpippjhcaaEq
import Derived.BigQuiet
import Derived.Deep.QuietTactic
import Derived.Laws.BitsLemmas
/- Code: the reader: well, wrong, Left, Fault, New. -/
set_option linter.unusedVariables false
set_option maxRecDepth 100000
namespace Go.Proofs.Ytflgnlpippjhcaa
open Go.RowKit Go.Sort

abbrev fltA (y f : Int) : Array Value := #[.int .i64 y, .int .i64 f]
abbrev fltV (y f : Int) : Value := .agg (fltA y f)
/-- A reader's cells: the bytes, the place, the fault. -/
abbrev rdC (A : Option Addr) (n c : Nat) (p : Nat) (y f : Int) : Array Value := #[.slice A n c, .int .i64 (p : Nat), .int .i64 y, .int .i64 f]
abbrev blkR (r : Nat) (A : Option Addr) (n c : Nat) (p : Nat) (y f : Int) : Own := .blk r 110 (rdC A n c p y f)
/-- What a reader's method leaves. -/
def RdPost (w : World) (r : Nat) (A : Option Addr) (n c : Nat) (v : Value) (p : Nat) (y f : Int) (e : Ending) (W : World) : Prop := e = .returned v ∧ Ms w (fun k => k = r) [blkR r A n c p y f] W
def wellB (y f : Int) : Bool := y == 0 && f == 0
theorem eqFlt_run (a b c d : Int) (w : World) : (Op.equalIn 10000 95 (.agg (fltA a b)) (.agg (fltA c d))).run Try.prog w = .ok (a == c && b == d) w := by
  show (Op.equalIn (9999 + 1) 95 _ _).run Try.prog w = _
  rw [run_equalIn_struct w 9999 _ _ _ (by kernel_rfl) (by kernel_rfl)]
  have e1 : ∀ x y : Int, (Op.equalIn 9999 26 (.int .i64 x) (.int .i64 y)).run Try.prog w = .ok (x == y) w := fun x y => run_equalIn_int w 9998 26 .i64 .i64 x y Try.underlying26
  have e2 : ∀ x y : Int, (Op.equalIn 9999 3 (.int .i64 x) (.int .i64 y)).run Try.prog w = .ok (x == y) w := fun x y => run_equalIn_int w 9998 3 .i64 .i64 x y Try.underlying3
  have p : ∀ (x y : Int), (part 26 (fltA x y) 0).run Try.prog w = .ok (.int .i64 x) w ∧ (part 3 (fltA x y) 1).run Try.prog w = .ok (.int .i64 y) w := fun x y => ⟨by kernel_rfl, by kernel_rfl⟩
  obtain ⟨a0, a1⟩ := p a b
  obtain ⟨b0, b1⟩ := p c d
  have hf : ∃ n0 n1 : String, (n0 ≠ "_" ∧ n1 ≠ "_") ∧ (Try.prog.fieldsOf 95).toList.map (fun f => (f.name, f.type, f.offset)) = [(n0, 26, 0), (n1, 3, 1)] :=
    ⟨"Why", "At", by decide, by kernel_rfl⟩
  obtain ⟨n0, n1, ⟨k0, k1⟩, hf⟩ := hf
  obtain ⟨fs, hfs⟩ : ∃ fs, fs = (Try.prog.fieldsOf 95).toList := ⟨_, rfl⟩
  rw [← hfs] at hf ⊢
  match fs, hf with
  | [f0, f1], hf =>
    simp only [List.map_cons, List.map_nil, List.cons.injEq, Prod.mk.injEq, and_true] at hf
    obtain ⟨⟨x0, y0, z0⟩, ⟨x1, y1, z1⟩⟩ := hf
    simp only [Op.eqFields, x0, x1, y0, y1, z0, z1, ne_eq, k0, k1, not_false_eq_true, if_true, Sem.run_bind, a0, a1, b0, b1, Result.andThen_ok, e1, e2, Sem.run_ite, Sem.run_pure]
    cases (a == c) <;> cases (b == d) <;> rfl
set_option maxRecDepth 100000 in
set_option maxHeartbeats 4000000 in
theorem well_c (r : Nat) (A : Option Addr) (n c p : Nat) (y f : Int) (w : World) (hB : Blk w r 110 (rdC A n c p y f)) :
    Calls Try.prog 63 #[.pointer (some ⟨r, 0, none⟩)] w fun e w' => e = .returned (.bool (wellB y f)) ∧ w = w' := by
  have HB := Lib.hid hB
  clear hB
  have HE := Lib.hid (show (y == 0 && f == 0) = wellB y f from rfl)
  obtain ⟨b, hb⟩ : ∃ b, b = wellB y f := ⟨_, rfl⟩
  rw [← hb] at HE ⊢
  clear hb
  go_enter Try.func63, Try.ntmps63
  go_wp2_with (first
    | (refine wpList_load_g (by kernel_rfl) 95 _ rfl HB.out 2 (fltV y f) rfl _ Try.underlying95 rfl (by kernel_rfl) (Nat.le_of_ble_eq_true rfl) rfl ?_)
    | (refine wpList_eql (by kernel_rfl) 95 _ _ _ rfl rfl rfl (by kernel_rfl) (y == 0 && f == 0) (eqFlt_run y f 0 0 _) ?_; rw [HE.out]))
  go_ret
  exact ⟨rfl, rfl⟩
set_option maxRecDepth 100000 in
set_option maxHeartbeats 4000000 in
theorem wrong_c (r : Nat) (A : Option Addr) (n c p : Nat) (y f : Int) (e a : Int) (w : World) (hB : Blk w r 110 (rdC A n c p y f)) (hw : wellB y f = true) :
    Calls Try.prog 64 #[.pointer (some ⟨r, 0, none⟩), .int .i64 e, .int .i64 a] w (RdPost w r A n c (.tuple #[]) p e a) := by
  have HS := Lib.hid (Ms.start (o := blkR r A n c p y f) hB)
  have HW := Lib.hid (well_c r A n c p y f w hB)
  clear hB
  go_enter Try.func64, Try.ntmps64
  go_wp2_with fail
  refine HW.out.mono ?_
  rintro e w' ⟨rfl, rfl⟩
  go_wp2_with (refine wpList_store_at rfl 95 _ _ rfl (HS.out.at_ 0 rfl) (fltV e a) rfl rfl (by kernel_rfl) (Nat.le_of_ble_eq_true rfl) (by kernel_rfl) ?_; intro W5 hB hP; have HS5 := Lib.hid (HS.out.put 0 rfl (new := rdC A n c p e a) hB hP); clear hB hP HS)
  go_end0
  exact ⟨rfl, HS5.out⟩
set_option maxRecDepth 100000 in
set_option maxHeartbeats 4000000 in
theorem wrong_no (r : Nat) (A : Option Addr) (n c p : Nat) (y f : Int) (e a : Int) (w : World) (hB : Blk w r 110 (rdC A n c p y f)) (hw : wellB y f = false) :
    Calls Try.prog 64 #[.pointer (some ⟨r, 0, none⟩), .int .i64 e, .int .i64 a] w (RdPost w r A n c (.tuple #[]) p y f) := by
  have HS := Lib.hid (Ms.start (o := blkR r A n c p y f) hB)
  have HW := Lib.hid (well_c r A n c p y f w hB)
  clear hB
  go_enter Try.func64, Try.ntmps64
  go_wp2_with fail
  refine HW.out.mono ?_
  rintro e w' ⟨rfl, rfl⟩
  go_wp2
  go_end0
  exact ⟨rfl, HS.out⟩
set_option maxRecDepth 100000 in
set_option maxHeartbeats 4000000 in
theorem left_c (r : Nat) (A : Option Addr) (n c p : Nat) (y f : Int) (w : World) (hB : Blk w r 110 (rdC A n c p y f)) (hp : p ≤ n) (hn : n ≤ 9223372036854775807) :
    Calls Try.prog 65 #[.pointer (some ⟨r, 0, none⟩)] w fun e w' => e = .returned (.int .i64 ((n - p : Nat) : Int)) ∧ Below w.heap.size w w' := by
  obtain ⟨r1, r2, r3⟩ := hB.rules
  have HE := Lib.hid (show (n : Int) - (p : Int) = ((n - p : Nat) : Int) by omega)
  clear hB
  have hn' : (n : Int) ≤ 9223372036854775807 := by omega
  have hp' : (p : Int) ≤ (n : Int) := by omega
  have hp0 : (0 : Int) ≤ (p : Int) := by omega
  have hww : IntKind.i64.wrap ((n : Int) - (p : Int)) = (n : Int) - (p : Int) := by rw [IntKind.wrap_i64]; omega
  go_enter Try.func65, Try.ntmps65
  go_wp2_with fail
  go_quiet (fail)
  go_wp2
  go_ret
  exact ⟨by rw [← HE.out]; rfl, below_drewN (Below.refl _ _) _⟩
set_option maxRecDepth 100000 in
set_option maxHeartbeats 4000000 in
theorem fault_c (r : Nat) (A : Option Addr) (n c p : Nat) (y f : Int) (w : World) (hB : Blk w r 110 (rdC A n c p y f)) :
    Calls Try.prog 66 #[.pointer (some ⟨r, 0, none⟩)] w fun e w' => e = .returned (fltV y f) ∧ Below w.heap.size w w' := by
  have HS0 := Lib.hid ((Ms.nil w noB))
  have HB := Lib.hid hB
  clear hB
  go_enter Try.func66, Try.ntmps66
  go_wp2_with (first
    | (refine wpList_alloc_b rfl (some 2) rfl 95 (fltA 0 0) (by kernel_rfl) ?_; intro g1 W1 hb hB hg; have HS1 := Lib.hid (HS0.out.new hb hB hg); have HB1 := Lib.hid (HB.out.after hb); clear hb hB hg HS0)
    | (refine wpList_load_at rfl 95 _ rfl HB1.out 2 (fltV y f) rfl _ Try.underlying95 rfl (by kernel_rfl) (Nat.le_of_ble_eq_true rfl) rfl ?_)
    | (refine wpList_store_at rfl 95 _ _ rfl (HS1.out.at_ 0 rfl) (fltV y f) rfl rfl (by kernel_rfl) (Nat.le_of_ble_eq_true rfl) (by kernel_rfl) ?_; intro W5 hB hP; have HS5 := Lib.hid (HS1.out.put 0 rfl (new := fltA y f) hB hP); clear hB hP HS1))
  exact post_cell rfl rfl (HS5.out.at_ 0 rfl) Try.underlying95 rfl (by kernel_rfl) rfl ⟨rfl, HS5.out.below⟩
set_option maxRecDepth 100000 in
set_option maxHeartbeats 4000000 in
theorem new_c (A : Option Addr) (n c : Nat) (w : World) :
    Calls Try.prog 47 #[.slice A n c] w fun e w' => ∃ r, e = .returned (.pointer (some ⟨r, 0, none⟩)) ∧ Ms w noB [blkR r A n c 0 0 0] w' := by
  have HS0 := Lib.hid ((Ms.nil w noB))
  go_enter Try.func47, Try.ntmps47
  go_wp2_with (refine wpList_alloc_b rfl (some 5) rfl 110 (rdC A n c 0 0 0) (by kernel_rfl) ?_; intro g1 W1 hb hB hg; have HS1 := Lib.hid (HS0.out.new hb hB hg); clear hb hB hg HS0)
  go_ret
  exact ⟨g1, rfl, HS1.out⟩
end Go.Proofs.Ytflgnlpippjhcaa

/- Code: the reader's peek. -/
set_option linter.unusedVariables false
namespace Go.Proofs.Ytflgnlpippjhcaa
open Go.RowKit Go.Sort

/-- What comes next: the number, the place behind it, and the fault. -/
def pkR (bs : List UInt8) (p : Nat) (y f : Int) : Int × Nat × Int × Int :=
  if wellB y f = false then (0, 0, y, f) else
  match decF 0 0 (bs.drop p) with
  | (0, u, k) => (unzig u, p + k, y, f)
  | (1, _, k) => (0, 0, 3, ((p + k : Nat) : Int))
  | _ => (0, 0, 4, (bs.length : Int))
theorem or_low_aux {j a : Nat} (hj : j ≤ 64) (ha : a < 2 ^ j) : (a : Int) < 2 ^ 64 := by
  have h1 := Nat.pow_le_pow_right (show 0 < 2 by decide) hj
  have h3 : a < 2 ^ 64 := Nat.lt_of_lt_of_le ha h1
  exact_mod_cast h3
theorem add_add' (a : Addr) (i j : Nat) : (a.add i).add j = a.add (i + j) := by
  unfold Addr.add
  by_cases hi : i = 0
  · subst hi; simp
  · by_cases hj : j = 0
    · subst hj; simp
    · rw [if_neg hi, if_neg hj, if_neg (by omega), Nat.add_assoc]
theorem or_low (j x : Nat) (a : Nat) (hj : j ≤ 64) (ha : a < 2 ^ j) (hx : x * 2 ^ j < 18446744073709551616) : bits .or .u64 (a : Int) ((x * 2 ^ j : Nat) : Int) = ((a + x * 2 ^ j : Nat) : Int) := by
  rw [bits_join_low .u64 64 (by decide) wraps_u64 j (a : Int) ((x * 2 ^ j : Nat) : Int) (by omega) (by exact_mod_cast ha) (or_low_aux hj ha) (by omega) (by
    have h : ((2 : Int) ^ j) = ((2 ^ j : Nat) : Int) := by norm_cast
    rw [h, ← Int.natCast_emod, Nat.mul_mod_left]; rfl) (by omega)]
  omega
theorem unz (u : Nat) (h : u < 18446744073709551616) : bits .xor .i64 ((u : Int) / 2) (-((u : Int) % 2)) = unzig u := by
  unfold unzig
  split
  · rename_i h1
    rw [show -((u : Int) % 2) = -1 by omega]
    have := Lib.i64_not (u / 2) (by omega)
    have e : bits .xor .i64 ((u : Int) / 2) (-1) = bits .xor .i64 (-1) ((u / 2 : Nat) : Int) := by
      show IntKind.i64.wrap _ = IntKind.i64.wrap _
      rw [BitVec.xor_comm]
      rfl
    rw [e, this]
  · rename_i h1
    rw [show -((u : Int) % 2) = 0 by omega]
    show IntKind.i64.wrap ((BitVec.ofInt 64 ((u : Int) / 2) ^^^ BitVec.ofInt 64 0).toNat : Int) = _
    rw [show BitVec.ofInt 64 0 = 0#64 by rfl, BitVec.xor_zero]
    have h2 : (BitVec.ofInt 64 ((u : Int) / 2)).toNat = u / 2 := by
      rw [show (u : Int) / 2 = ((u / 2 : Nat) : Int) by omega, BitVec.ofInt_natCast, BitVec.toNat_ofNat]
      exact Nat.mod_eq_of_lt (by omega)
    rw [h2, IntKind.wrap_i64]
    omega
theorem decF_step {k acc : Nat} {l : List UInt8} (hk : k < l.length) : decF k acc (l.drop k) = (if (k = 9 ∧ 1 < (l.getD k 0).toNat) ∨ (0 < k ∧ (l.getD k 0).toNat = 0) then (1, 0, k) else if (l.getD k 0).toNat < 128 then (0, acc + (l.getD k 0).toNat * 2 ^ (7 * k), k + 1) else decF (k + 1) (acc + (l.getD k 0).toNat % 128 * 2 ^ (7 * k)) (l.drop (k + 1))) := by
  rw [List.drop_eq_getElem_cons hk]
  simp only [decF, List.getD_eq_getElem?_getD, List.getElem?_eq_getElem hk, Option.getD_some]
theorem sl_cell {w : World} {ad : Addr} {n : Nat} {bs : List UInt8} {p j : Nat} (h : ReadsB w (some ad) n bs) (hj : p + j < n) : w.cell? ((ad.add p).add j) = some (.int .u8 ((bs.drop p).getD j 0).toNat) := by
  obtain ⟨ad', e, hc⟩ := h.2.2 (by omega)
  cases e
  have h2 := hc (p + j) hj
  rw [add_add', h2, List.getD_eq_getElem?_getD, List.getD_eq_getElem?_getD, List.getElem?_drop]
theorem ret_ii {a b c d : Int} (h1 : a = b) (h2 : c = d) : Ending.returned (.tuple #[.int .i64 a, .int .i64 c]) = .returned (.tuple #[.int .i64 b, .int .i64 d]) := by rw [h1, h2]
def hacc9 (acc k : Nat) : Prop := acc < 9223372036854775808
theorem hacc9_of {acc k : Nat} (h : acc < 2 ^ (7 * k)) (hk : k ≤ 9) : hacc9 acc k := by
  have h1 : (2 : Nat) ^ (7 * k) ≤ 2 ^ 63 := Nat.pow_le_pow_right (by decide) (by omega)
  have h2 : (2 : Nat) ^ 63 = 9223372036854775808 := by decide
  unfold hacc9; omega
theorem sh_eq {M T k : Nat} (hT : T = M * 2 ^ (7 * k)) (h : T < 18446744073709551616) : IntKind.u64.wrap ((M : Int) * 2 ^ (7 * (k : Int)).toNat) = (T : Int) := by
  have e1 : ((2 : Int) ^ (7 * (k : Int)).toNat) = ((2 ^ (7 * k) : Nat) : Int) := by
    rw [show (7 * (k : Int)).toNat = 7 * k by omega]
    norm_cast
  rw [e1, ← Int.natCast_mul, ← hT, IntKind.wrap_u64]
  omega
theorem acc_bound9 {M T acc acc2 k : Nat} (hk : k = 9) (hT : T = M * 2 ^ (7 * k)) (h2 : acc2 = acc + T) (hM : M ≤ 1) (ha : acc < 2 ^ (7 * k)) : T < 18446744073709551616 ∧ acc2 < 18446744073709551616 := by
  subst hk
  have e : (2 : Nat) ^ (7 * 9) = 9223372036854775808 := by decide
  rw [e] at hT ha
  omega
theorem acc_bound {M T acc acc2 k : Nat} (hT : T = M * 2 ^ (7 * k)) (h2 : acc2 = acc + T) (hk : k ≤ 8) (hM : M < 128) (ha : acc < 2 ^ (7 * k)) : T < 18446744073709551616 ∧ acc2 < 18446744073709551616 := by
  have h1 : (2 : Nat) ^ (7 * k) ≤ 2 ^ 56 := Nat.pow_le_pow_right (by decide) (by omega)
  have h3 : (2 : Nat) ^ 56 = 72057594037927936 := by decide
  have h4 : M * 2 ^ (7 * k) ≤ 127 * 72057594037927936 := Nat.mul_le_mul (by omega) (by omega)
  omega
theorem pk_bad {bs : List UInt8} {p k : Nat} {y f : Int} (hw : wellB y f = true) (h : decF 0 0 (bs.drop p) = (1, 0, k)) : pkR bs p y f = (0, 0, 3, ((p + k : Nat) : Int)) := by
  unfold pkR; rw [hw, h]; rfl
theorem pk_ok {bs : List UInt8} {p k u : Nat} {y f : Int} (hw : wellB y f = true) (h : decF 0 0 (bs.drop p) = (0, u, k)) : pkR bs p y f = (unzig u, p + k, y, f) := by
  unfold pkR; rw [hw, h]; rfl
theorem pk_end {bs : List UInt8} {p : Nat} {y f : Int} (hw : wellB y f = true) (h : decF 0 0 (bs.drop p) = (2, 0, 0)) : pkR bs p y f = (0, 0, 4, (bs.length : Int)) := by
  unfold pkR; rw [hw, h]; rfl
/-- The end of a walk of peek. -/
theorem pk_post {w W : World} {r n c p q q' : Nat} {A : Option Addr} {v v' y f y' f' : Int} {x : Int × Nat × Int × Int} {e : Ending} (h1 : x = (v, q, y, f)) (h2 : x = (v', q', y', f')) (he : e = .returned (.tuple #[.int .i64 v', .int .i64 (q' : Nat)])) (hM : Ms w (fun k => k = r) [blkR r A n c p y' f'] W) :
    RdPost w r A n c (.tuple #[.int .i64 v, .int .i64 (q : Nat)]) p y f e W := by
  rw [h1] at h2
  simp only [Prod.mk.injEq] at h2
  obtain ⟨rfl, rfl, rfl, rfl⟩ := h2
  exact ⟨he, hM⟩
set_option maxRecDepth 100000 in
set_option maxHeartbeats 4000000 in
theorem peek_no (r : Nat) (A : Option Addr) (n c p : Nat) (y f : Int) (w : World) (hB : Blk w r 110 (rdC A n c p y f)) (hw : wellB y f = false) :
    Calls Try.prog 62 #[.pointer (some ⟨r, 0, none⟩)] w (RdPost w r A n c (.tuple #[.int .i64 0, .int .i64 0]) p y f) := by
  have HS := Lib.hid (Ms.start (o := blkR r A n c p y f) hB)
  have HW := Lib.hid (well_c r A n c p y f w hB)
  clear hB
  go_enter Try.func62, Try.ntmps62
  go_wp2_with fail
  refine HW.out.mono ?_
  rintro e w' ⟨rfl, rfl⟩
  go_wp2
  go_ret2
  exact ⟨rfl, HS.out⟩
set_option maxRecDepth 100000 in
set_option maxHeartbeats 4000000 in
theorem peek_yes (r : Nat) (A : Option Addr) (n c p : Nat) (y f : Int) (bs : List UInt8) (w : World) (hB : Blk w r 110 (rdC A n c p y f)) (hw : wellB y f = true) (hR : ReadsB w A n bs) (hp : p ≤ n) (hn : n ≤ 140737488355328) (hc : n ≤ c) (hA : 0 < n → ∀ a, A = some a → a.block ≠ r)
    (v : Int) (q : Nat) (y' f' : Int) (hv : pkR bs p y f = (v, q, y', f')) :
    Calls Try.prog 62 #[.pointer (some ⟨r, 0, none⟩)] w (RdPost w r A n c (.tuple #[.int .i64 v, .int .i64 (q : Nat)]) p y' f') := by
  have HS0 := Lib.hid (Ms.start (o := blkR r A n c p y f) hB)
  have HW := Lib.hid (well_c r A n c p y f w hB)
  have HV := Lib.hid hv
  have HR := Lib.hid hR
  have HL := Lib.hid hR.1
  have hnI : (n : Int) ≤ 140737488355328 := by omega
  have hpI : (p : Int) ≤ (n : Int) := by omega
  have hcI : (n : Int) ≤ (c : Int) := by omega
  clear hB hv hR hA
  go_enter Try.func62, Try.ntmps62
  go_wp2_with fail
  refine HW.out.mono ?_
  rintro e w' ⟨rfl, rfl⟩
  clear HW
  obtain ⟨r1, r2, r3⟩ := HS0.out.rules 0 rfl
  go_wp2_with fail
  go_quiet (fail)
  have hDD : ∀ ad, A = some ad → p < n → (if c = p then A else Option.map (fun x => x.add p) A) = some (ad.add p) := fun ad h1 h2 => by
    rw [if_neg (by omega), h1]; rfl
  obtain ⟨D, hDe⟩ : ∃ D, D = (if c = p then A else Option.map (fun x => x.add p) A) := ⟨_, rfl⟩
  rw [← hDe] at hDD ⊢
  have HDD := Lib.hid hDD
  clear hDe hDD r1 r2 r3
  have HS1 := Lib.hid (HS0.out.drewN nq)
  have HR1 := Lib.hid (HR.out.below (below_drewN (Below.refl w.heap.size w) nq))
  clear HS0
  obtain ⟨W1, hW1⟩ : ∃ W1, W1 = w.drewN nq := ⟨_, rfl⟩
  rw [← hW1] at HS1 HR1
  rw [← hW1]
  clear hW1 HR
  obtain ⟨L, hLe⟩ : ∃ L, L = bs.drop p := ⟨_, rfl⟩
  have HLl := Lib.hid (show L.length = n - p by rw [hLe, List.length_drop, HL.out])
  have HLe := Lib.hid hLe
  clear hLe
  go_wp2_with fail
  go_loop [4, 20] (fun u i => ∃ k acc : Nat, k ≤ n - p ∧ k ≤ 9 ∧ i = .int .i64 k ∧ u = .int .u64 acc ∧ acc < 2 ^ (7 * k) ∧ decF 0 0 L = decF k acc (L.drop k)) (fun _ i => n - p - (intOf i).toNat)
  case atStart => exact ⟨0, 0, by omega, by omega, rfl, rfl, by simp, by simp⟩
  case round =>
    obtain ⟨k, acc, hk, hk9, rfl, rfl, hacc, hd⟩ := hrel
    have HA := Lib.hid hacc
    have HD := Lib.hid hd
    clear hacc hd
    have hk9I : (k : Int) ≤ 9 := by omega
    obtain ⟨r1, r2, r3⟩ := HS1.out.rules 0 rfl
    by_cases hlt : k < n - p
    · have HST := Lib.hid (HD.out.trans (decF_step (k := k) (acc := acc) (l := L) (by rw [HLl.out]; exact hlt)))
      obtain ⟨ad, hAe, hx⟩ := HR1.out.2.2 (by omega)
      clear hx
      have hcell := sl_cell (p := p) (j := k) (hAe ▸ HR1.out) (by omega)
      have hDe := HDD.out ad hAe (by omega)
      subst hDe
      rw [← HLe.out] at hcell
      obtain ⟨b, hbe⟩ : ∃ b, b = (L.getD k 0).toNat := ⟨_, rfl⟩
      have hb256 : b < 256 := hbe ▸ UInt8.toNat_lt _
      rw [← hbe] at hcell HST
      clear hbe
      have hltI : (k : Int) < (n - p : Nat) := by omega
      have HH : Hid (hacc9 acc k) := Lib.hid (hacc9_of HA.out hk9)
      obtain ⟨M, hM⟩ : ∃ M : Nat, M = b % 128 := ⟨_, rfl⟩
      have h127 : bits .and .u8 (b : Int) 127 = (M : Int) := by rw [u8_and127 _ (by omega) (by omega)]; omega
      have E1 := Lib.hid (fun h : (k = 9 ∧ 1 < b) ∨ (0 < k ∧ b = 0) => HST.out.trans (if_pos h))
      have E2 := Lib.hid (fun (h : ¬ ((k = 9 ∧ 1 < b) ∨ (0 < k ∧ b = 0))) (h2 : b < 128) => (HST.out.trans (if_neg h)).trans (if_pos h2))
      have E3 := Lib.hid (fun (h : ¬ ((k = 9 ∧ 1 < b) ∨ (0 < k ∧ b = 0))) (h2 : ¬ b < 128) => (HST.out.trans (if_neg h)).trans (if_neg h2))
      clear HST
      by_cases c9 : k = 9
      · have F1 := Lib.hid (fun h : 1 < b => E1.out (.inl ⟨c9, h⟩))
        have F2 := Lib.hid (fun h : b = 0 => E1.out (.inr ⟨by omega, h⟩))
        have F3 := Lib.hid (fun (h : ¬ 1 < b) (h2 : ¬ b = 0) => E2.out (by omega) (by omega))
        clear E1 E2 E3
        subst c9
        have hcell9 : W1.cell? ⟨(ad.add p).block, (ad.add p).off + 9, none⟩ = some (.int .u8 (b : Int)) := hcell
        have hlt9 : (9 : Int) < (n - p : Nat) := by omega
        clear hltI hk9I hcell
        by_cases c1 : 1 < b
        · have d1 : (1 : Int) < (b : Int) := by omega
          go_wp2_with fail
          refine (wrong_c r A n c p y f 3 ((p : Int) + 9) _ (HS1.out.at_ 0 rfl) hw).mono ?_
          rintro e W5 ⟨rfl, hM⟩
          have HS5 := Lib.hid (HS1.out.call 0 rfl hM)
          clear hM HS1
          go_wp2
          go_ret2
          exact pk_post HV.out (by rw [pk_bad (k := 9) hw (by rw [← HLe.out]; exact F1.out c1)]; rfl) rfl HS5.out
        · have d1 : ¬ (1 : Int) < (b : Int) := by omega
          by_cases cb : b = 0
          · have db : ((b : Int) == 0) = true := by simp; omega
            go_wp2_with fail
            refine (wrong_c r A n c p y f 3 ((p : Int) + 9) _ (HS1.out.at_ 0 rfl) hw).mono ?_
            rintro e W5 ⟨rfl, hM⟩
            have HS5 := Lib.hid (HS1.out.call 0 rfl hM)
            clear hM HS1
            go_wp2
            go_ret2
            exact pk_post HV.out (by rw [pk_bad (k := 9) hw (by rw [← HLe.out]; exact F2.out cb)]; rfl) rfl HS5.out
          · skip
            have db : ((b : Int) == 0) = false := by simp; omega
            obtain ⟨T, hT⟩ : ∃ T : Nat, T = M * 2 ^ (7 * 9) := ⟨_, rfl⟩
            obtain ⟨acc2, hacc2⟩ : ∃ acc2 : Nat, acc2 = acc + T := ⟨_, rfl⟩
            have hTB : T < 18446744073709551616 ∧ acc2 < 18446744073709551616 := acc_bound9 rfl hT hacc2 (by omega) HA.out
            have hMb : (M : Int) < 128 := by omega
            have hsh : IntKind.u64.wrap ((M : Int) * 9223372036854775808) = (T : Int) := sh_eq (k := 9) hT hTB.1
            have hor : bits .or .u64 (acc : Int) (T : Int) = (acc2 : Int) := by rw [hacc2, hT]; exact or_low (7 * 9) M acc (by omega) HA.out (by rw [← hT]; exact hTB.1)
            have hun := unz acc2 hTB.2
            have hac0 : (acc2 : Int) < 18446744073709551616 := by omega
            have hand := Lib.u64_and1 (acc2 : Int) (by omega) hac0
            have HT := Lib.hid (And.intro hT hacc2)
            have HM := Lib.hid hM
            clear hT hacc2 hTB hM
            have d128 : (b : Int) < 128 := by omega
            go_wp2_with fail
            go_quiet (fail)
            go_wp2
            go_ret2
            exact pk_post HV.out (pk_ok hw ((congrArg (decF 0 0) HLe.out.symm).trans ((F3.out c1 cb).trans (by rw [HT.out.2, HT.out.1, HM.out, Nat.mod_eq_of_lt (show b < 128 by omega)])))) (ret_ii rfl (by omega)) (HS1.out.drewN _)
      · have d9 : ((k : Int) == 9) = false := by simp; omega
        obtain ⟨T, hT⟩ : ∃ T : Nat, T = M * 2 ^ (7 * k) := ⟨_, rfl⟩
        obtain ⟨acc2, hacc2⟩ : ∃ acc2 : Nat, acc2 = acc + T := ⟨_, rfl⟩
        have hTB : T < 18446744073709551616 ∧ acc2 < 18446744073709551616 := acc_bound hT hacc2 (by omega) (by omega) HA.out
        have hMb : (M : Int) < 128 := by omega
        have hsh : IntKind.u64.wrap ((M : Int) * 2 ^ (7 * k)) = (T : Int) := by have h := sh_eq hT hTB.1; rwa [show (7 * (k : Int)).toNat = 7 * k by omega] at h
        have hor : bits .or .u64 (acc : Int) (T : Int) = (acc2 : Int) := by rw [hacc2, hT]; exact or_low (7 * k) M acc (by omega) HA.out (by rw [← hT]; exact hTB.1)
        have hun := unz acc2 hTB.2
        have hac0 : (acc2 : Int) < 18446744073709551616 := by omega
        have hand := Lib.u64_and1 (acc2 : Int) (by omega) hac0
        have HT := Lib.hid (And.intro hT hacc2)
        have HM := Lib.hid hM
        clear hT hacc2 hTB hM
        by_cases c0 : 0 < k
        · have d0 : (0 : Int) < (k : Int) := by omega
          by_cases cb : b = 0
          · have db : ((b : Int) == 0) = true := by simp; omega
            go_wp2_with fail
            refine (wrong_c r A n c p y f 3 ((p : Int) + (k : Int)) _ (HS1.out.at_ 0 rfl) hw).mono ?_
            rintro e W5 ⟨rfl, hM⟩
            have HS5 := Lib.hid (HS1.out.call 0 rfl hM)
            clear hM HS1
            go_wp2
            go_ret2
            exact pk_post HV.out (by rw [pk_bad (k := k) hw (by rw [← HLe.out]; exact E1.out (by omega))]; rfl) rfl HS5.out
          · skip
            have db : ((b : Int) == 0) = false := by simp; omega
            by_cases c128 : b < 128
            · have d128 : (b : Int) < 128 := by omega
              go_wp2_with fail
              go_quiet (fail)
              go_wp2
              go_ret2
              exact pk_post HV.out (pk_ok hw ((congrArg (decF 0 0) HLe.out.symm).trans ((E2.out (by omega) c128).trans (by rw [HT.out.2, HT.out.1, HM.out, Nat.mod_eq_of_lt (show b < 128 by omega)])))) (ret_ii rfl (by omega)) (HS1.out.drewN _)
            · have d128 : ¬ (b : Int) < 128 := by omega
              go_wp2_with fail
              exact ⟨⟨k + 1, acc2, by omega, by omega, by go_num, rfl, by rw [HT.out.2, HT.out.1]; exact decF_acc HA.out M (by have := HM.out; omega), by rw [HT.out.2, HT.out.1, HM.out]; exact E3.out (by omega) c128⟩, by simp [intOf]; omega⟩
        · have d0 : ¬ (0 : Int) < (k : Int) := by omega
          by_cases c128 : b < 128
          · have d128 : (b : Int) < 128 := by omega
            go_wp2_with fail
            go_quiet (fail)
            go_wp2
            go_ret2
            exact pk_post HV.out (pk_ok hw ((congrArg (decF 0 0) HLe.out.symm).trans ((E2.out (by omega) c128).trans (by rw [HT.out.2, HT.out.1, HM.out, Nat.mod_eq_of_lt (show b < 128 by omega)])))) (ret_ii rfl (by omega)) (HS1.out.drewN _)
          · have d128 : ¬ (b : Int) < 128 := by omega
            go_wp2_with fail
            exact ⟨⟨k + 1, acc2, by omega, by omega, by go_num, rfl, by rw [HT.out.2, HT.out.1]; exact decF_acc HA.out M (by have := HM.out; omega), by rw [HT.out.2, HT.out.1, HM.out]; exact E3.out (by omega) c128⟩, by simp [intOf]; omega⟩
    · have HE := Lib.hid (show decF 0 0 L = (2, 0, 0) by rw [HD.out, List.drop_eq_nil_of_le (by rw [HLl.out]; omega)]; rfl)
      go_wp2_with fail
      refine (wrong_c r A n c p y f 4 (n : Int) _ (HS1.out.at_ 0 rfl) hw).mono ?_
      rintro e W5 ⟨rfl, hM⟩
      have HS5 := Lib.hid (HS1.out.call 0 rfl hM)
      clear hM HS1
      go_wp2
      go_ret2
      exact pk_post HV.out (by rw [pk_end hw (by rw [← HLe.out]; exact HE.out), HL.out]) rfl HS5.out
end Go.Proofs.Ytflgnlpippjhcaa

/- Code: the reader's Int, In, Text, End. -/
set_option linter.unusedVariables false
namespace Go.Proofs.Ytflgnlpippjhcaa
open Go.RowKit Go.Sort

/-- What stands in memory ahead of a reader's method. -/
structure RdOk (w : World) (r : Nat) (A : Option Addr) (n c p : Nat) (y f : Int) (bs : List UInt8) : Prop where
  blk : Blk w r 110 (rdC A n c p y f)
  reads : ReadsB w A n bs
  le : p ≤ n
  small : n ≤ 140737488355328
  cap : n ≤ c
  off : 0 < n → ∀ a, A = some a → a.block ≠ r
theorem RdOk.turn {w W : World} {r : Nat} {A : Option Addr} {n c p q : Nat} {y f y' f' : Int} {bs : List UInt8} (h : RdOk w r A n c p y f bs) (hM : Ms w (fun k => k = r) [blkR r A n c q y' f'] W) (hq : q ≤ n) : RdOk W r A n c q y' f' bs :=
  ⟨hM.at_ 0 rfl, h.reads.turn hM.turn h.off, hq, h.small, h.cap, h.off⟩
theorem RdOk.after {w W : World} {r : Nat} {A : Option Addr} {n c p : Nat} {y f : Int} {bs : List UInt8} (h : RdOk w r A n c p y f bs) (hb : Below w.heap.size w W) : RdOk W r A n c p y f bs :=
  ⟨h.blk.after hb, h.reads.below hb, h.le, h.small, h.cap, h.off⟩
theorem peek_c (r : Nat) (A : Option Addr) (n c p : Nat) (y f : Int) (bs : List UInt8) (w : World) (h : RdOk w r A n c p y f bs) (v : Int) (q : Nat) (y' f' : Int) (hv : pkR bs p y f = (v, q, y', f')) :
    Calls Try.prog 62 #[.pointer (some ⟨r, 0, none⟩)] w (RdPost w r A n c (.tuple #[.int .i64 v, .int .i64 (q : Nat)]) p y' f') := by
  cases hw : wellB y f
  · unfold pkR at hv
    rw [if_pos hw] at hv
    simp only [Prod.mk.injEq] at hv
    obtain ⟨rfl, rfl, rfl, rfl⟩ := hv
    exact peek_no r A n c p y f w h.blk hw
  · exact peek_yes r A n c p y f bs w h.blk hw h.reads h.le h.small h.cap h.off v q y' f' hv
theorem wrong_any (r : Nat) (A : Option Addr) (n c p : Nat) (y f : Int) (e a : Int) (w : World) (hB : Blk w r 110 (rdC A n c p y f)) :
    Calls Try.prog 64 #[.pointer (some ⟨r, 0, none⟩), .int .i64 e, .int .i64 a] w (RdPost w r A n c (.tuple #[]) p (if wellB y f = true then e else y) (if wellB y f = true then a else f)) := by
  cases hw : wellB y f
  · exact wrong_no r A n c p y f e a w hB hw
  · exact wrong_c r A n c p y f e a w hB hw
/-- Facts of what comes next. -/
theorem pk_le {bs : List UInt8} {p : Nat} {y f : Int} {v : Int} {q : Nat} {y' f' : Int} (hp : p ≤ bs.length) (h : pkR bs p y f = (v, q, y', f')) (hw : wellB y' f' = true) : wellB y f = true ∧ y' = y ∧ f' = f ∧ p < q ∧ q ≤ bs.length ∧ ∃ u, decF 0 0 (bs.drop p) = (0, u, q - p) ∧ v = unzig u := by
  unfold pkR at h
  split at h
  · rename_i h1
    simp only [Prod.mk.injEq] at h
    obtain ⟨_, _, rfl, rfl⟩ := h
    rw [h1] at hw; cases hw
  · rename_i h1
    have hl : (bs.drop p).length = bs.length - p := List.length_drop
    split at h
    · rename_i u k he
      simp only [Prod.mk.injEq] at h
      obtain ⟨rfl, rfl, rfl, rfl⟩ := h
      have hk := decF_kind (bs.drop p) 0 0 (by omega)
      rw [he] at hk
      rcases hk with ⟨v', k', e, h2, h3⟩ | ⟨k', e, _⟩ | e
      · simp only [Prod.mk.injEq, true_and] at e
        obtain ⟨_, rfl⟩ := e
        exact ⟨by simpa using h1, rfl, rfl, by omega, by omega, u, by rw [he, Nat.add_sub_cancel_left], rfl⟩
      · cases e
      · cases e
    · simp only [Prod.mk.injEq] at h
      obtain ⟨_, _, rfl, rfl⟩ := h
      simp [wellB] at hw
    · simp only [Prod.mk.injEq] at h
      obtain ⟨_, _, rfl, rfl⟩ := h
      simp [wellB] at hw
theorem pk_zero {bs : List UInt8} {p : Nat} {y f : Int} {v : Int} {q : Nat} {y' f' : Int} (h : pkR bs p y f = (v, q, y', f')) (hw : wellB y' f' = false) : v = 0 ∧ q = 0 := by
  unfold pkR at h
  split at h
  · simp only [Prod.mk.injEq] at h; exact ⟨h.1.symm, h.2.1.symm⟩
  · rename_i h1
    split at h
    · simp only [Prod.mk.injEq] at h
      obtain ⟨_, _, rfl, rfl⟩ := h
      exact absurd hw h1
    · simp only [Prod.mk.injEq] at h; exact ⟨h.1.symm, h.2.1.symm⟩
    · simp only [Prod.mk.injEq] at h; exact ⟨h.1.symm, h.2.1.symm⟩

/-! ### Int -/
/-- The number, the place, the fault. -/
def intR (bs : List UInt8) (p : Nat) (y f : Int) : Int × Nat × Int × Int :=
  let t := pkR bs p y f
  if wellB t.2.2.1 t.2.2.2 = true then t else (0, p, t.2.2.1, t.2.2.2)
set_option maxRecDepth 100000 in
set_option maxHeartbeats 4000000 in

/-! ### In -/
def inR (bs : List UInt8) (p : Nat) (y f lo hi : Int) : Int × Nat × Int × Int :=
  let t := pkR bs p y f
  if wellB t.2.2.1 t.2.2.2 = true then (if t.1 < lo ∨ hi < t.1 then (0, p, 5, (p : Int)) else t) else (0, p, t.2.2.1, t.2.2.2)
set_option maxRecDepth 100000 in
set_option maxHeartbeats 4000000 in
theorem rIn_c (r : Nat) (A : Option Addr) (n c p : Nat) (y f lo hi : Int) (bs : List UInt8) (w : World) (h : RdOk w r A n c p y f bs) (v : Int) (q : Nat) (y' f' : Int) (hv : inR bs p y f lo hi = (v, q, y', f')) :
    Calls Try.prog 48 #[.pointer (some ⟨r, 0, none⟩), .int .i64 lo, .int .i64 hi] w (RdPost w r A n c (.int .i64 v) q y' f') := by
  have HS0 := Lib.hid (Ms.start (o := blkR r A n c p y f) h.blk)
  obtain ⟨v1, q1, y1, f1, ht⟩ : ∃ v1 q1 y1 f1, pkR bs p y f = (v1, q1, y1, f1) := ⟨_, _, _, _, rfl⟩
  have HP := Lib.hid (peek_c r A n c p y f bs w h v1 q1 y1 f1 ht)
  unfold inR at hv
  rw [ht] at hv
  simp only at hv
  clear h ht
  cases hw : wellB y1 f1
  · rw [hw, if_neg (by simp)] at hv
    simp only [Prod.mk.injEq] at hv
    obtain ⟨rfl, rfl, rfl, rfl⟩ := hv
    go_enter Try.func48, Try.ntmps48
    go_wp2_with fail
    refine HP.out.mono ?_
    rintro e W1 ⟨rfl, hM⟩
    have HS1 := Lib.hid (HS0.out.call 0 rfl hM)
    clear hM HS0 HP
    go_wp2_with ((with_reducible refine (well_c r A n c p y1 f1 _ (HS1.out.at_ 0 rfl)).mono ?_); rintro e w' ⟨rfl, rfl⟩)
    go_ret
    exact ⟨rfl, HS1.out⟩
  · rw [hw, if_pos rfl] at hv
    by_cases hb : v1 < lo ∨ hi < v1
    · rw [if_pos hb] at hv
      simp only [Prod.mk.injEq] at hv
      obtain ⟨rfl, rfl, rfl, rfl⟩ := hv
      have hnw : wellB 5 (p : Int) = false := by simp [wellB]
      by_cases hlo : v1 < lo
      all_goals
        first
          | have hhi : hi < v1 := by omega
          | skip
        clear hb
        go_enter Try.func48, Try.ntmps48
        go_wp2_with fail
        refine HP.out.mono ?_
        rintro e W1 ⟨rfl, hM⟩
        have HS1 := Lib.hid (HS0.out.call 0 rfl hM)
        clear hM HS0 HP
        obtain ⟨r1, r2, r3⟩ := HS1.out.rules 0 rfl
        go_wp2_with fail
        refine (well_c r A n c p y1 f1 _ (HS1.out.at_ 0 rfl)).mono ?_
        rintro e w' ⟨rfl, rfl⟩
        go_wp2_with fail
        refine (wrong_c r A n c p y1 f1 5 (p : Int) _ (HS1.out.at_ 0 rfl) hw).mono ?_
        rintro e W2 ⟨rfl, hM⟩
        have HS2 := Lib.hid (HS1.out.call 0 rfl hM)
        clear hM HS1 r1 r2 r3
        go_wp2_with fail
        refine (well_c r A n c p 5 (p : Int) _ (HS2.out.at_ 0 rfl)).mono ?_
        rintro e w' ⟨rfl, rfl⟩
        go_wp2
        go_ret
        exact ⟨rfl, HS2.out⟩
    · rw [if_neg hb] at hv
      simp only [Prod.mk.injEq] at hv
      obtain ⟨rfl, rfl, rfl, rfl⟩ := hv
      have hlo : ¬ v1 < lo := by omega
      have hhi : ¬ hi < v1 := by omega
      clear hb
      go_enter Try.func48, Try.ntmps48
      go_wp2_with fail
      refine HP.out.mono ?_
      rintro e W1 ⟨rfl, hM⟩
      have HS1 := Lib.hid (HS0.out.call 0 rfl hM)
      clear hM HS0 HP
      go_wp2_with (first
        | ((with_reducible refine (well_c r A n c p y1 f1 _ (HS1.out.at_ 0 rfl)).mono ?_); rintro e w' ⟨rfl, rfl⟩)
        | (refine wpList_store_at rfl 3 _ _ rfl (HS1.out.at_ 0 rfl) (.int .i64 (q1 : Nat)) rfl rfl (by kernel_rfl) (Nat.le_of_ble_eq_true rfl) (by kernel_rfl) ?_; intro W5 hB hP; have HS5 := Lib.hid (HS1.out.put 0 rfl (new := rdC A n c q1 y1 f1) hB hP); clear hB hP HS1))
      go_ret
      exact ⟨rfl, HS5.out⟩
end Go.Proofs.Ytflgnlpippjhcaa

/- Code: the reader's Text, End. -/
set_option linter.unusedVariables false
namespace Go.Proofs.Ytflgnlpippjhcaa
open Go.RowKit Go.Sort

theorem ReadsB.sub {w : World} {A : Option Addr} {n : Nat} {bs : List UInt8} (h : ReadsB w A n bs) (q m c : Nat) (hq : q + m ≤ n) (hc : n ≤ c) : ReadsB w (if c = q then A else Option.map (fun x => x.add q) A) m ((bs.drop q).take m) := by
  have hl := h.1
  refine ⟨by simp; omega, by have := h.2.1; omega, fun hm => ?_⟩
  obtain ⟨ad, e, hcell⟩ := h.2.2 (by omega)
  rw [if_neg (by omega), e]
  refine ⟨ad.add q, rfl, fun j hj => ?_⟩
  rw [add_add', hcell (q + j) (by omega), List.getD_eq_getElem?_getD, List.getD_eq_getElem?_getD, List.getElem?_take, if_pos hj, List.getElem?_drop]
def textR (bs : List UInt8) (p : Nat) (y f most : Int) : List UInt8 × Nat × Int × Int :=
  let t := pkR bs p y f
  if wellB t.2.2.1 t.2.2.2 = true then
    if t.1 < 0 ∨ most < t.1 then ([], p, 5, (p : Int))
    else if (bs.length : Int) - (t.2.1 : Int) < t.1 then ([], p, 4, (bs.length : Int))
    else ((bs.drop t.2.1).take t.1.toNat, t.2.1 + t.1.toNat, t.2.2.1, t.2.2.2)
  else ([], p, t.2.2.1, t.2.2.2)
theorem str_nil : strOf [] = { data := #[] } := rfl
set_option maxRecDepth 100000 in
set_option maxHeartbeats 4000000 in
theorem rText_no (r : Nat) (A : Option Addr) (n c p : Nat) (y f most : Int) (bs : List UInt8) (w : World) (h : RdOk w r A n c p y f bs) (v1 : Int) (q1 : Nat) (y1 f1 : Int) (ht : pkR bs p y f = (v1, q1, y1, f1)) (hw : wellB y1 f1 = false) :
    Calls Try.prog 49 #[.pointer (some ⟨r, 0, none⟩), .int .i64 most] w (RdPost w r A n c (.string (strOf [])) p y1 f1) := by
  have HS0 := Lib.hid (Ms.start (o := blkR r A n c p y f) h.blk)
  have HP := Lib.hid (peek_c r A n c p y f bs w h v1 q1 y1 f1 ht)
  clear h ht
  go_enter Try.func49, Try.ntmps49
  go_wp2_with fail
  refine HP.out.mono ?_
  rintro e W1 ⟨rfl, hM⟩
  have HS1 := Lib.hid (HS0.out.call 0 rfl hM)
  clear hM HS0 HP
  go_wp2_with ((with_reducible refine (well_c r A n c p y1 f1 _ (HS1.out.at_ 0 rfl)).mono ?_); rintro e w' ⟨rfl, rfl⟩)
  go_ret
  exact ⟨rfl, HS1.out⟩
set_option maxRecDepth 100000 in
set_option maxHeartbeats 4000000 in
theorem rText_many (r : Nat) (A : Option Addr) (n c p : Nat) (y f most : Int) (bs : List UInt8) (w : World) (h : RdOk w r A n c p y f bs) (v1 : Int) (q1 : Nat) (y1 f1 : Int) (ht : pkR bs p y f = (v1, q1, y1, f1)) (hw : wellB y1 f1 = true) (hv : v1 < 0 ∨ most < v1) :
    Calls Try.prog 49 #[.pointer (some ⟨r, 0, none⟩), .int .i64 most] w (RdPost w r A n c (.string (strOf [])) p 5 (p : Int)) := by
  have HS0 := Lib.hid (Ms.start (o := blkR r A n c p y f) h.blk)
  have HP := Lib.hid (peek_c r A n c p y f bs w h v1 q1 y1 f1 ht)
  clear h ht
  by_cases hlo : v1 < 0
  all_goals
    first
      | have hhi : most < v1 := by omega
      | skip
    clear hv
    go_enter Try.func49, Try.ntmps49
    go_wp2_with fail
    refine HP.out.mono ?_
    rintro e W1 ⟨rfl, hM⟩
    have HS1 := Lib.hid (HS0.out.call 0 rfl hM)
    clear hM HS0 HP
    obtain ⟨r1, r2, r3⟩ := HS1.out.rules 0 rfl
    go_wp2_with fail
    refine (well_c r A n c p y1 f1 _ (HS1.out.at_ 0 rfl)).mono ?_
    rintro e w' ⟨rfl, rfl⟩
    go_wp2_with fail
    refine (wrong_c r A n c p y1 f1 5 (p : Int) _ (HS1.out.at_ 0 rfl) hw).mono ?_
    rintro e W2 ⟨rfl, hM⟩
    have HS2 := Lib.hid (HS1.out.call 0 rfl hM)
    clear hM HS1 r1 r2 r3
    go_wp2
    go_ret
    exact ⟨rfl, HS2.out⟩
set_option maxRecDepth 100000 in
set_option maxHeartbeats 4000000 in
theorem rText_end (r : Nat) (A : Option Addr) (n c p : Nat) (y f most : Int) (bs : List UInt8) (w : World) (h : RdOk w r A n c p y f bs) (v1 : Int) (q1 : Nat) (y1 f1 : Int) (ht : pkR bs p y f = (v1, q1, y1, f1)) (hw : wellB y1 f1 = true) (hv : ¬ v1 < 0) (hv2 : ¬ most < v1) (hv3 : (n : Int) - (q1 : Int) < v1) (hq : q1 ≤ n) :
    Calls Try.prog 49 #[.pointer (some ⟨r, 0, none⟩), .int .i64 most] w (RdPost w r A n c (.string (strOf [])) p 4 (n : Int)) := by
  have HS0 := Lib.hid (Ms.start (o := blkR r A n c p y f) h.blk)
  have HP := Lib.hid (peek_c r A n c p y f bs w h v1 q1 y1 f1 ht)
  have hww : IntKind.i64.wrap ((n : Int) - (q1 : Int)) = (n : Int) - (q1 : Int) := by have := h.small; rw [IntKind.wrap_i64]; omega
  have hnI : (n : Int) ≤ 140737488355328 := by have := h.small; omega
  have hqI : (q1 : Int) ≤ (n : Int) := by omega
  clear h ht
  go_enter Try.func49, Try.ntmps49
  go_wp2_with fail
  refine HP.out.mono ?_
  rintro e W1 ⟨rfl, hM⟩
  have HS1 := Lib.hid (HS0.out.call 0 rfl hM)
  clear hM HS0 HP
  obtain ⟨r1, r2, r3⟩ := HS1.out.rules 0 rfl
  go_wp2_with fail
  refine (well_c r A n c p y1 f1 _ (HS1.out.at_ 0 rfl)).mono ?_
  rintro e w' ⟨rfl, rfl⟩
  go_wp2_with fail
  refine (wrong_c r A n c p y1 f1 4 (n : Int) _ (HS1.out.at_ 0 rfl) hw).mono ?_
  rintro e W2 ⟨rfl, hM⟩
  have HS2 := Lib.hid (HS1.out.call 0 rfl hM)
  clear hM HS1 r1 r2 r3
  go_wp2
  go_ret
  exact ⟨rfl, HS2.out⟩
set_option maxRecDepth 100000 in
set_option maxHeartbeats 4000000 in
theorem rText_yes (r : Nat) (A : Option Addr) (n c p : Nat) (y f most : Int) (bs : List UInt8) (w : World) (h : RdOk w r A n c p y f bs) (m : Nat) (q1 : Nat) (y1 f1 : Int) (ht : pkR bs p y f = ((m : Int), q1, y1, f1)) (hw : wellB y1 f1 = true) (hv2 : ¬ most < (m : Int)) (hv3 : q1 + m ≤ n) :
    Calls Try.prog 49 #[.pointer (some ⟨r, 0, none⟩), .int .i64 most] w (RdPost w r A n c (.string (strOf ((bs.drop q1).take m))) (q1 + m) y1 f1) := by
  have HS0 := Lib.hid (Ms.start (o := blkR r A n c p y f) h.blk)
  have HP := Lib.hid (peek_c r A n c p y f bs w h m q1 y1 f1 ht)
  have hww : IntKind.i64.wrap ((n : Int) - (q1 : Int)) = (n : Int) - (q1 : Int) := by have := h.small; rw [IntKind.wrap_i64]; omega
  have hnI : (n : Int) ≤ 140737488355328 := by have := h.small; omega
  have hqI : (q1 : Int) + (m : Int) ≤ (n : Int) := by omega
  have hqI2 : ¬ (n : Int) - (q1 : Int) < (m : Int) := by omega
  have hcI : (n : Int) ≤ (c : Int) := by have := h.cap; omega
  have HR := Lib.hid h.reads
  have HC := Lib.hid h.cap
  have HO := Lib.hid h.off
  clear h ht
  go_enter Try.func49, Try.ntmps49
  go_wp2_with fail
  refine HP.out.mono ?_
  rintro e W1 ⟨rfl, hM⟩
  have HR1 := Lib.hid (HR.out.turn hM.turn HO.out)
  have HS1 := Lib.hid (HS0.out.call 0 rfl hM)
  clear hM HS0 HP HR
  obtain ⟨r1, r2, r3⟩ := HS1.out.rules 0 rfl
  go_wp2_with fail
  refine (well_c r A n c p y1 f1 _ (HS1.out.at_ 0 rfl)).mono ?_
  rintro e w' ⟨rfl, rfl⟩
  go_wp2_with (refine wpList_store_at rfl 3 _ _ rfl (HS1.out.at_ 0 rfl) (.int .i64 ((q1 : Int) + (m : Int))) rfl rfl (by kernel_rfl) (Nat.le_of_ble_eq_true rfl) (by kernel_rfl) ?_; intro W5 hB hP; have HR5 := Lib.hid (HR1.out.turn (Turn.of_put (ex := fun k => k = r) hP rfl) HO.out); have HS5 := Lib.hid (HS1.out.put 0 rfl (new := #[.slice A n c, .int .i64 ((q1 : Int) + (m : Int)), .int .i64 y1, .int .i64 f1]) hB hP); clear hB hP HS1 HR1 r1 r2 r3)
  obtain ⟨r1, r2, r3⟩ := HS5.out.rules 0 rfl
  have hcv : ∀ k, (convert 58 9 (.slice (if c = q1 then A else Option.map (fun x => x.add q1) A) m (c - q1))).run Try.prog (W5.drewN k) = .ok (.string (strOf ((bs.drop q1).take m))) (W5.drewN k) := fun k =>
    run_bytes_text ((HR5.out.sub q1 m c hv3 HC.out).below (below_drewN (Below.refl _ _) k)) 58 9 5 Try.underlying58 Try.underlying5 Try.underlying9
  refine wp_region_quiet_lit (by kernel_rfl) (by kernel_rfl) ?_
  repeat (first | go_big_quiet_step (fail) | quiet_step (fail) | (refine wpQuiet_step (fun K hK => ?_); go_simp; refine hK _ ?_; clear hK K))
  refine wpQuiet_nil ?_
  rintro w6 ⟨nq, rfl⟩
  obtain ⟨D, hD⟩ : ∃ D, D = (if c = q1 then A else Option.map (fun x => x.add q1) A) := ⟨_, rfl⟩
  rw [← hD]
  clear hD hcv
  go_wp2
  go_ret
  have hE : ((q1 : Int) + (m : Int)) = ((q1 + m : Nat) : Int) := by omega
  rw [hE] at HS5
  exact ⟨rfl, HS5.out.drewN _⟩

/-! ### End -/
def endR (p n : Nat) (y f : Int) : Int × Int := if p < n ∧ wellB y f = true then (3, (p : Int)) else (y, f)
set_option maxRecDepth 100000 in
set_option maxHeartbeats 4000000 in
theorem rEnd_c (r : Nat) (A : Option Addr) (n c p : Nat) (y f : Int) (bs : List UInt8) (w : World) (h : RdOk w r A n c p y f bs) :
    Calls Try.prog 50 #[.pointer (some ⟨r, 0, none⟩)] w (RdPost w r A n c (fltV (endR p n y f).1 (endR p n y f).2) p (endR p n y f).1 (endR p n y f).2) := by
  have HS0 := Lib.hid (Ms.start (o := blkR r A n c p y f) h.blk)
  have HL := Lib.hid (fun w' hB => left_c r A n c p y f w' hB h.le (by have := h.small; omega))
  have hpn := h.le
  obtain ⟨y', f', he⟩ : ∃ y' f', endR p n y f = (y', f') := ⟨_, _, rfl⟩
  rw [he]
  unfold endR at he
  clear h
  by_cases hlt : p < n
  · have hlI : (0 : Int) < ((n - p : Nat) : Int) := by omega
    have HW := Lib.hid (fun w' hB => wrong_any r A n c p y f 3 (p : Int) w' hB)
    have e2 : (if wellB y f = true then (3 : Int) else y) = y' ∧ (if wellB y f = true then (p : Int) else f) = f' := by
      cases hw : wellB y f
      · rw [hw, if_neg (by simp)] at he; simp only [Prod.mk.injEq] at he; simpa using he
      · rw [hw, if_pos ⟨hlt, rfl⟩] at he; simp only [Prod.mk.injEq] at he; simpa using he
    rw [e2.1, e2.2] at HW
    clear e2 he
    go_enter Try.func50, Try.ntmps50
    go_wp2_with (refine wpList_alloc_b rfl (some 2) rfl 95 (fltA 0 0) (by kernel_rfl) ?_; intro g1 W1 hb hB hg; have HS1 := Lib.hid (HS0.out.new hb hB hg); clear hb hB hg HS0)
    refine (HL.out _ (HS1.out.at_ 0 rfl)).mono ?_
    rintro e W2 ⟨rfl, hb⟩
    have HS2 := Lib.hid (HS1.out.after hb)
    clear hb HS1 HL
    obtain ⟨r1, r2, r3⟩ := HS2.out.rules 0 rfl
    go_wp2_with fail
    refine (HW.out _ (HS2.out.at_ 0 rfl)).mono ?_
    rintro e W3 ⟨rfl, hM⟩
    have HS3 := Lib.hid (HS2.out.call 0 rfl hM)
    clear hM HS2 r1 r2 r3 HW
    go_wp2_with fail
    refine (fault_c r A n c p y' f' _ (HS3.out.at_ 0 rfl)).mono ?_
    rintro e W4 ⟨rfl, hb⟩
    have HS4 := Lib.hid (HS3.out.after hb)
    clear hb HS3
    go_wp2_with (refine wpList_store_at rfl 95 _ _ rfl (HS4.out.at_ 1 rfl) (fltV y' f') rfl rfl (by kernel_rfl) (Nat.le_of_ble_eq_true rfl) (by kernel_rfl) ?_; intro W5 hB hP; have HS5 := Lib.hid (HS4.out.put 1 rfl (new := fltA y' f') hB hP); clear hB hP HS4)
    exact post_cell rfl rfl (HS5.out.at_ 1 rfl) Try.underlying95 rfl (by kernel_rfl) rfl ⟨rfl, Ms.cut (l := [blkR r A n c p y' f']) (k := [.blk g1 95 (fltA y' f')]) HS5.out⟩
  · have hlI : ((n - p : Nat) : Int) = 0 := by omega
    rw [if_neg (fun h => hlt h.1)] at he
    simp only [Prod.mk.injEq] at he
    obtain ⟨rfl, rfl⟩ := he
    rw [hlI] at HL
    clear hlI
    go_enter Try.func50, Try.ntmps50
    go_wp2_with (refine wpList_alloc_b rfl (some 2) rfl 95 (fltA 0 0) (by kernel_rfl) ?_; intro g1 W1 hb hB hg; have HS1 := Lib.hid (HS0.out.new hb hB hg); clear hb hB hg HS0)
    refine (HL.out _ (HS1.out.at_ 0 rfl)).mono ?_
    rintro e W2 ⟨rfl, hb⟩
    have HS2 := Lib.hid (HS1.out.after hb)
    clear hb HS1 HL
    go_wp2_with fail
    refine (fault_c r A n c p y f _ (HS2.out.at_ 0 rfl)).mono ?_
    rintro e W4 ⟨rfl, hb⟩
    have HS4 := Lib.hid (HS2.out.after hb)
    clear hb HS2
    go_wp2_with (refine wpList_store_at rfl 95 _ _ rfl (HS4.out.at_ 1 rfl) (fltV y f) rfl rfl (by kernel_rfl) (Nat.le_of_ble_eq_true rfl) (by kernel_rfl) ?_; intro W5 hB hP; have HS5 := Lib.hid (HS4.out.put 1 rfl (new := fltA y f) hB hP); clear hB hP HS4)
    exact post_cell rfl rfl (HS5.out.at_ 1 rfl) Try.underlying95 rfl (by kernel_rfl) rfl ⟨rfl, Ms.cut (l := [blkR r A n c p y f]) (k := [.blk g1 95 (fltA y f)]) HS5.out⟩
/-- Text, in one. -/
theorem rText_c (r : Nat) (A : Option Addr) (n c p : Nat) (y f most : Int) (bs : List UInt8) (w : World) (h : RdOk w r A n c p y f bs) (s : List UInt8) (q : Nat) (y' f' : Int) (hv : textR bs p y f most = (s, q, y', f')) :
    Calls Try.prog 49 #[.pointer (some ⟨r, 0, none⟩), .int .i64 most] w (RdPost w r A n c (.string (strOf s)) q y' f') := by
  obtain ⟨v1, q1, y1, f1, ht⟩ : ∃ v1 q1 y1 f1, pkR bs p y f = (v1, q1, y1, f1) := ⟨_, _, _, _, rfl⟩
  have hl := h.reads.1
  unfold textR at hv
  rw [ht] at hv
  simp only at hv
  cases hw : wellB y1 f1
  · rw [hw, if_neg (by simp)] at hv
    simp only [Prod.mk.injEq] at hv
    obtain ⟨rfl, rfl, rfl, rfl⟩ := hv
    exact rText_no r A n c p y f most bs w h v1 q1 y1 f1 ht hw
  · rw [hw, if_pos rfl] at hv
    obtain ⟨_, _, _, hpq, hq, _⟩ := pk_le (by have := h.le; omega) ht hw
    by_cases hb : v1 < 0 ∨ most < v1
    · rw [if_pos hb] at hv
      simp only [Prod.mk.injEq] at hv
      obtain ⟨rfl, rfl, rfl, rfl⟩ := hv
      exact rText_many r A n c p y f most bs w h v1 q1 y1 f1 ht hw hb
    · rw [if_neg hb] at hv
      by_cases hb2 : (bs.length : Int) - (q1 : Int) < v1
      · rw [if_pos hb2] at hv
        simp only [Prod.mk.injEq] at hv
        obtain ⟨rfl, rfl, rfl, rfl⟩ := hv
        rw [hl] at hb2 ⊢
        exact rText_end r A n c p y f most bs w h v1 q1 y1 f1 ht hw (by omega) (by omega) hb2 (by omega)
      · rw [if_neg hb2] at hv
        simp only [Prod.mk.injEq] at hv
        obtain ⟨rfl, rfl, rfl, rfl⟩ := hv
        obtain ⟨m, rfl⟩ := Int.eq_ofNat_of_zero_le (show 0 ≤ v1 by omega)
        exact rText_yes r A n c p y f most bs w h m q1 y1 f1 ht hw (by omega) (by omega)
end Go.Proofs.Ytflgnlpippjhcaa

