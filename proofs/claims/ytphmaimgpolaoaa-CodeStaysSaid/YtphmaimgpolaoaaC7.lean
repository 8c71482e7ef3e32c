/- Code: the reader: well, wrong, Left, Fault, New. -/
import Derived.Test.YtphmaimgpolaoaaC6
import Derived.Test.YtphmaimgpolaoaaEq
import Derived.BigQuiet
import Derived.Deep.QuietTactic
set_option linter.unusedVariables false
namespace Go.Proofs.Ytphmaimgpolaoaa
open Go.RowKit Go.Sort

abbrev fltA (y f : Int) : Array Value := #[.int .i64 y, .int .i64 f]
abbrev fltV (y f : Int) : Value := .agg (fltA y f)
/-- A reader's cells: the bytes, the place, the fault. -/
abbrev rdC (A : Option Addr) (n c : Nat) (p : Nat) (y f : Int) : Array Value := #[.slice A n c, .int .i64 (p : Nat), .int .i64 y, .int .i64 f]
abbrev blkR (r : Nat) (A : Option Addr) (n c : Nat) (p : Nat) (y f : Int) : Own := .blk r 58 (rdC A n c p y f)
/-- What a reader's method leaves. -/
def RdPost (w : World) (r : Nat) (A : Option Addr) (n c : Nat) (v : Value) (p : Nat) (y f : Int) (e : Ending) (W : World) : Prop := e = .returned v ∧ Ms w (fun k => k = r) [blkR r A n c p y f] W
def wellB (y f : Int) : Bool := y == 0 && f == 0
theorem eqFlt_run (a b c d : Int) (w : World) : (Op.equalIn 10000 30 (.agg (fltA a b)) (.agg (fltA c d))).run Try.prog w = .ok (a == c && b == d) w := by
  show (Op.equalIn (9999 + 1) 30 _ _).run Try.prog w = _
  rw [run_equalIn_struct w 9999 _ _ _ (by kernel_rfl) (by kernel_rfl)]
  have e1 : ∀ x y : Int, (Op.equalIn 9999 28 (.int .i64 x) (.int .i64 y)).run Try.prog w = .ok (x == y) w := fun x y => run_equalIn_int w 9998 28 .i64 .i64 x y Try.underlying28
  have e2 : ∀ x y : Int, (Op.equalIn 9999 3 (.int .i64 x) (.int .i64 y)).run Try.prog w = .ok (x == y) w := fun x y => run_equalIn_int w 9998 3 .i64 .i64 x y Try.underlying3
  have p : ∀ (x y : Int), (part 28 (fltA x y) 0).run Try.prog w = .ok (.int .i64 x) w ∧ (part 3 (fltA x y) 1).run Try.prog w = .ok (.int .i64 y) w := fun x y => ⟨by kernel_rfl, by kernel_rfl⟩
  obtain ⟨a0, a1⟩ := p a b
  obtain ⟨b0, b1⟩ := p c d
  have hf : ∃ n0 n1 : String, (n0 ≠ "_" ∧ n1 ≠ "_") ∧ (Try.prog.fieldsOf 30).toList.map (fun f => (f.name, f.type, f.offset)) = [(n0, 28, 0), (n1, 3, 1)] :=
    ⟨"Why", "At", by decide, by kernel_rfl⟩
  obtain ⟨n0, n1, ⟨k0, k1⟩, hf⟩ := hf
  obtain ⟨fs, hfs⟩ : ∃ fs, fs = (Try.prog.fieldsOf 30).toList := ⟨_, rfl⟩
  rw [← hfs] at hf ⊢
  match fs, hf with
  | [f0, f1], hf =>
    simp only [List.map_cons, List.map_nil, List.cons.injEq, Prod.mk.injEq, and_true] at hf
    obtain ⟨⟨x0, y0, z0⟩, ⟨x1, y1, z1⟩⟩ := hf
    simp only [Op.eqFields, x0, x1, y0, y1, z0, z1, ne_eq, k0, k1, not_false_eq_true, if_true, Sem.run_bind, a0, a1, b0, b1, Result.andThen_ok, e1, e2, Sem.run_ite, Sem.run_pure]
    cases (a == c) <;> cases (b == d) <;> rfl
set_option maxRecDepth 100000 in
set_option maxHeartbeats 4000000 in
theorem well_c (r : Nat) (A : Option Addr) (n c p : Nat) (y f : Int) (w : World) (hB : Blk w r 58 (rdC A n c p y f)) :
    Calls Try.prog 26 #[.pointer (some ⟨r, 0, none⟩)] w fun e w' => e = .returned (.bool (wellB y f)) ∧ w = w' := by
  have HB := Lib.hid hB
  clear hB
  have HE := Lib.hid (show (y == 0 && f == 0) = wellB y f from rfl)
  obtain ⟨b, hb⟩ : ∃ b, b = wellB y f := ⟨_, rfl⟩
  rw [← hb] at HE ⊢
  clear hb
  go_enter Try.func26, Try.ntmps26
  go_wp2_with (first
    | (refine wpList_load_g (by kernel_rfl) 30 _ rfl HB.out 2 (fltV y f) rfl _ Try.underlying30 rfl (by kernel_rfl) (Nat.le_of_ble_eq_true rfl) rfl ?_)
    | (refine wpList_eql (by kernel_rfl) 30 _ _ _ rfl rfl rfl (by kernel_rfl) (y == 0 && f == 0) (eqFlt_run y f 0 0 _) ?_; rw [HE.out]))
  go_ret
  exact ⟨rfl, rfl⟩
set_option maxRecDepth 100000 in
set_option maxHeartbeats 4000000 in
theorem wrong_c (r : Nat) (A : Option Addr) (n c p : Nat) (y f : Int) (e a : Int) (w : World) (hB : Blk w r 58 (rdC A n c p y f)) (hw : wellB y f = true) :
    Calls Try.prog 28 #[.pointer (some ⟨r, 0, none⟩), .int .i64 e, .int .i64 a] w (RdPost w r A n c (.tuple #[]) p e a) := by
  have HS := Lib.hid (Ms.start (o := blkR r A n c p y f) hB)
  have HW := Lib.hid (well_c r A n c p y f w hB)
  clear hB
  go_enter Try.func28, Try.ntmps28
  go_wp2_with fail
  refine HW.out.mono ?_
  rintro e w' ⟨rfl, rfl⟩
  go_wp2_with (refine wpList_store_at rfl 30 _ _ rfl (HS.out.at_ 0 rfl) (fltV e a) rfl rfl (by kernel_rfl) (Nat.le_of_ble_eq_true rfl) (by kernel_rfl) ?_; intro W5 hB hP; have HS5 := Lib.hid (HS.out.put 0 rfl (new := rdC A n c p e a) hB hP); clear hB hP HS)
  go_end0
  exact ⟨rfl, HS5.out⟩
set_option maxRecDepth 100000 in
set_option maxHeartbeats 4000000 in
theorem wrong_no (r : Nat) (A : Option Addr) (n c p : Nat) (y f : Int) (e a : Int) (w : World) (hB : Blk w r 58 (rdC A n c p y f)) (hw : wellB y f = false) :
    Calls Try.prog 28 #[.pointer (some ⟨r, 0, none⟩), .int .i64 e, .int .i64 a] w (RdPost w r A n c (.tuple #[]) p y f) := by
  have HS := Lib.hid (Ms.start (o := blkR r A n c p y f) hB)
  have HW := Lib.hid (well_c r A n c p y f w hB)
  clear hB
  go_enter Try.func28, Try.ntmps28
  go_wp2_with fail
  refine HW.out.mono ?_
  rintro e w' ⟨rfl, rfl⟩
  go_wp2
  go_end0
  exact ⟨rfl, HS.out⟩
set_option maxRecDepth 100000 in
set_option maxHeartbeats 4000000 in
theorem left_c (r : Nat) (A : Option Addr) (n c p : Nat) (y f : Int) (w : World) (hB : Blk w r 58 (rdC A n c p y f)) (hp : p ≤ n) (hn : n ≤ 9223372036854775807) :
    Calls Try.prog 9 #[.pointer (some ⟨r, 0, none⟩)] w fun e w' => e = .returned (.int .i64 ((n - p : Nat) : Int)) ∧ Below w.heap.size w w' := by
  obtain ⟨r1, r2, r3⟩ := hB.rules
  have HE := Lib.hid (show (n : Int) - (p : Int) = ((n - p : Nat) : Int) by omega)
  clear hB
  have hn' : (n : Int) ≤ 9223372036854775807 := by omega
  have hp' : (p : Int) ≤ (n : Int) := by omega
  have hp0 : (0 : Int) ≤ (p : Int) := by omega
  have hww : IntKind.i64.wrap ((n : Int) - (p : Int)) = (n : Int) - (p : Int) := by rw [IntKind.wrap_i64]; omega
  go_enter Try.func9, Try.ntmps9
  go_wp2_with fail
  go_quiet (fail)
  go_wp2
  go_ret
  exact ⟨by rw [← HE.out]; rfl, below_drewN (Below.refl _ _) _⟩
set_option maxRecDepth 100000 in
set_option maxHeartbeats 4000000 in
theorem fault_c (r : Nat) (A : Option Addr) (n c p : Nat) (y f : Int) (w : World) (hB : Blk w r 58 (rdC A n c p y f)) :
    Calls Try.prog 10 #[.pointer (some ⟨r, 0, none⟩)] w fun e w' => e = .returned (fltV y f) ∧ Below w.heap.size w w' := by
  have HS0 := Lib.hid ((Ms.nil w noB))
  have HB := Lib.hid hB
  clear hB
  go_enter Try.func10, Try.ntmps10
  go_wp2_with (first
    | (refine wpList_alloc_b rfl (some 2) rfl 30 (fltA 0 0) (by kernel_rfl) ?_; intro g1 W1 hb hB hg; have HS1 := Lib.hid (HS0.out.new hb hB hg); have HB1 := Lib.hid (HB.out.after hb); clear hb hB hg HS0)
    | (refine wpList_load_at rfl 30 _ rfl HB1.out 2 (fltV y f) rfl _ Try.underlying30 rfl (by kernel_rfl) (Nat.le_of_ble_eq_true rfl) rfl ?_)
    | (refine wpList_store_at rfl 30 _ _ rfl (HS1.out.at_ 0 rfl) (fltV y f) rfl rfl (by kernel_rfl) (Nat.le_of_ble_eq_true rfl) (by kernel_rfl) ?_; intro W5 hB hP; have HS5 := Lib.hid (HS1.out.put 0 rfl (new := fltA y f) hB hP); clear hB hP HS1))
  exact post_cell rfl rfl (HS5.out.at_ 0 rfl) Try.underlying30 rfl (by kernel_rfl) rfl ⟨rfl, HS5.out.below⟩
set_option maxRecDepth 100000 in
set_option maxHeartbeats 4000000 in
theorem new_c (A : Option Addr) (n c : Nat) (w : World) :
    Calls Try.prog 8 #[.slice A n c] w fun e w' => ∃ r, e = .returned (.pointer (some ⟨r, 0, none⟩)) ∧ Ms w noB [blkR r A n c 0 0 0] w' := by
  have HS0 := Lib.hid ((Ms.nil w noB))
  go_enter Try.func8, Try.ntmps8
  go_wp2_with (refine wpList_alloc_b rfl (some 5) rfl 58 (rdC A n c 0 0 0) (by kernel_rfl) ?_; intro g1 W1 hb hB hg; have HS1 := Lib.hid (HS0.out.new hb hB hg); clear hb hB hg HS0)
  go_ret
  exact ⟨g1, rfl, HS1.out⟩
end Go.Proofs.Ytphmaimgpolaoaa
