/- The walks of the sets' And, Or, Not. -/
import Derived.Test.YtmhbblkihjmonaaDoorProg
import Derived.Test.YtmhbblkihjmonaaDoorOp
import Derived.KernelRfl
import Derived.WalkLawsBesides
import Derived.WalkSpells
import Derived.Deep.QuietTactic
import Derived.BigQuiet
import Derived.Lib.Hide
import Derived.Outline
import Derived.StillTailTactics
import Derived.Deep.LoopGhost
import Derived.Deep.RegionHeld3
set_option linter.unusedVariables false
namespace Go.Proofs.YtmhbblkihjmonaaDoor
open Go.RowKit

theorem andW (x y : Nat) (hx : x ≤ 18446744073709551615) (hy : y ≤ 18446744073709551615) (w : World) :
    Calls Tryd.prog 52 #[.int .u64 (x : Int), .int .u64 (y : Int)] w fun e w' => e = .returned (.int .u64 ((x &&& y : Nat) : Int)) ∧ w = w' := by
  go_enter Tryd.func52, Tryd.ntmps52
  go_wp2
  go_ret
  exact ⟨ret_u64 (and_u64 x y hx hy), rfl⟩
theorem orW (x y : Nat) (hx : x ≤ 18446744073709551615) (hy : y ≤ 18446744073709551615) (w : World) :
    Calls Tryd.prog 54 #[.int .u64 (x : Int), .int .u64 (y : Int)] w fun e w' => e = .returned (.int .u64 ((x ||| y : Nat) : Int)) ∧ w = w' := by
  go_enter Tryd.func54, Tryd.ntmps54
  go_wp2
  go_ret
  exact ⟨ret_u64 (or_u64 x y hx hy), rfl⟩
theorem notW (x y : Nat) (hx : x ≤ 18446744073709551615) (hy : y ≤ 18446744073709551615) (w : World) :
    Calls Tryd.prog 55 #[.int .u64 (x : Int), .int .u64 (y : Int)] w fun e w' => e = .returned (.int .u64 ((x &&& (18446744073709551615 - y) : Nat) : Int)) ∧ w = w' := by
  go_enter Tryd.func55, Tryd.ntmps55
  go_wp2
  go_ret
  exact ⟨ret_u64 (andNot_u64 x y hx hy), rfl⟩

/-- The array in the loop: the first k words done. -/
def mixA (g : Nat → Nat → Nat) (s t : NS) (k : Nat) : Array Value :=
  #[.int .u64 ((if 0 < k then g (wn s 0) (wn t 0) else wn s 0 : Nat) : Int), .int .u64 ((if 1 < k then g (wn s 1) (wn t 1) else wn s 1 : Nat) : Int),
    .int .u64 ((if 2 < k then g (wn s 2) (wn t 2) else wn s 2 : Nat) : Int), .int .u64 ((if 3 < k then g (wn s 3) (wn t 3) else wn s 3 : Nat) : Int)]
theorem mixA_get (g : Nat → Nat → Nat) (s t : NS) (k : Nat) (h : k < 4) : (mixA g s t k)[k]? = some (.int .u64 (wn s k : Nat)) := by
  rcases (show k = 0 ∨ k = 1 ∨ k = 2 ∨ k = 3 by omega) with rfl | rfl | rfl | rfl <;> rfl
theorem mixA_set (g : Nat → Nat → Nat) (s t : NS) (k : Nat) (h : k < 4) : (mixA g s t k).setIfInBounds k (.int .u64 (g (wn s k) (wn t k) : Nat)) = mixA g s t (k + 1) := by
  rcases (show k = 0 ∨ k = 1 ∨ k = 2 ∨ k = 3 by omega) with rfl | rfl | rfl | rfl <;> rfl

theorem mixA_zero (g : Nat → Nat → Nat) (s t : NS) (k : Nat) (h : k < 4) : (mixA g s t 0)[k]? = some (.int .u64 (wn s k : Nat)) := by
  rcases (show k = 0 ∨ k = 1 ∨ k = 2 ∨ k = 3 by omega) with rfl | rfl | rfl | rfl <;> rfl

set_option maxHeartbeats 1000000 in
theorem each_any (f : Nat) (g : Nat → Nat → Nat) (s t : NS) (hc : ∀ (args : Array Value) (w : World), (callFunc f args).run Tryd.prog w = .ok (.enter f args) w)
    (hf : ∀ (k : Nat) (w : World), k < 4 → Calls Tryd.prog f #[.int .u64 (wn s k : Nat), .int .u64 (wn t k : Nat)] w fun e w' => e = .returned (.int .u64 ((g (wn s k) (wn t k) : Nat) : Int)) ∧ w = w') (w : World) :
    Calls Tryd.prog 51 #[nsV s, nsV t, .func (.func f) #[] #[]] w fun e w' => e = .returned (.agg (mixA g s t 4)) ∧ Below w.heap.size w w' := by
  have HF := Lib.hid hf
  clear hf
  go_enter Tryd.func51, Tryd.ntmps51
  go_wp2_with fail
  go_loopw [8] (fun i wr => ∃ k : Nat, k ≤ 4 ∧ i = .int .i64 k ∧ Blk wr w.heap.size 24 (mixA g s t k) ∧ Blk wr (w.heap.size + 1) 24 (mixA g t t 0) ∧ Blk wr (w.heap.size + 2) 24 #[.int .u64 0, .int .u64 0, .int .u64 0, .int .u64 0] ∧ Below w.heap.size w wr) (fun i _ => 4 - (intOf i).toNat)
  case atStart =>
    exact ⟨0, by omega, rfl, ((Blk.new w _ _).alloc _).alloc _, (Blk.new' (by simp)).alloc _, Blk.new' (by simp), (((Below.refl _ _).alloc (by simp) _).alloc (by simp) _).alloc (by simp; omega) _⟩
  case round =>
    obtain ⟨k, hk, rfl, hB0, hB1, hB2, hbl⟩ := hrel
    have H0 := Lib.hid hB0; have H1 := Lib.hid hB1; have H2 := Lib.hid hB2; have HL := Lib.hid hbl
    obtain ⟨r1, r2, r3⟩ := hB0.rules
    obtain ⟨q1, q2, q3⟩ := hB1.rules
    clear hB0 hB1 hbl
    by_cases hlt : k < 4
    · have c1 := mixA_get g s t k hlt
      have c2 := mixA_zero g t t k hlt
      clear hB2
      go_wp2_with fail
      refine region_tail 10 (by kernel_rfl) (by kernel_rfl) ?_
      simp only [List.take_succ_cons, List.take_zero, List.drop_succ_cons, List.drop_zero]
      repeat still_step
      still_call (still_of (HF.out k _ hlt))
      repeat still_step
      refine wpStill_nil ?_
      go_wp2
      go_roundw
      case rel =>
        refine ⟨k + 1, by omega, by go_num, ?_, H1.out.drew.far (by simp) _, H2.out.drew.far (by simp) _, HL.out.drew.setCell (by simp) _⟩
        rw [← mixA_set g s t k hlt]
        exact H0.out.drew.set_ k _
      case measure => simp [intOf]; omega
    · obtain rfl : k = 4 := by omega
      obtain ⟨z1, z2, z3⟩ := hB2.rules
      clear hB2
      have e4 : mixA g s t 4 = #[.int .u64 ((g (wn s 0) (wn t 0) : Nat) : Int), .int .u64 ((g (wn s 1) (wn t 1) : Nat) : Int), .int .u64 ((g (wn s 2) (wn t 2) : Nat) : Int), .int .u64 ((g (wn s 3) (wn t 3) : Nat) : Int)] := rfl
      go_wp2
      exact post_cell rfl rfl (H2.out.four _ _ _ _) Tryd.underlying24 rfl (by kernel_rfl) rfl ⟨rfl, below_four HL.out (by omega) _ _ _ _⟩

theorem mixA_ns {g : Nat → Nat → Nat} {s t u : NS} (h : ∀ k, k < 4 → g (wn s k) (wn t k) = wn u k) : mixA g s t 4 = #[.int .u64 (wn u 0 : Nat), .int .u64 (wn u 1 : Nat), .int .u64 (wn u 2 : Nat), .int .u64 (wn u 3 : Nat)] := by
  rw [← h 0 (by decide), ← h 1 (by decide), ← h 2 (by decide), ← h 3 (by decide)]; rfl
/-- A function that hands a closure on to 'each'. -/
theorem eachAnd (s t : NS) (w : World) : Calls Tryd.prog 51 #[nsV s, nsV t, .func (.func 52) #[] #[]] w fun e w' => e = .returned (nsV (s &&& t)) ∧ Below w.heap.size w w' :=
  (each_any 52 (fun x y => x &&& y) s t (fun _ _ => by kernel_rfl) (fun k w _ => andW _ _ (wn_le s k) (wn_le t k) w) w).mono fun e w' ⟨h1, h2⟩ => ⟨by rw [h1, mixA_ns (fun k hk => wn_and s t k hk)], h2⟩
theorem eachOr (s t : NS) (w : World) : Calls Tryd.prog 51 #[nsV s, nsV t, .func (.func 54) #[] #[]] w fun e w' => e = .returned (nsV (s ||| t)) ∧ Below w.heap.size w w' :=
  (each_any 54 (fun x y => x ||| y) s t (fun _ _ => by kernel_rfl) (fun k w _ => orW _ _ (wn_le s k) (wn_le t k) w) w).mono fun e w' ⟨h1, h2⟩ => ⟨by rw [h1, mixA_ns (fun k hk => wn_or s t k hk)], h2⟩
theorem eachNot (s t : NS) (w : World) : Calls Tryd.prog 51 #[nsV s, nsV t, .func (.func 55) #[] #[]] w fun e w' => e = .returned (nsV (notS s t)) ∧ Below w.heap.size w w' :=
  (each_any 55 (fun x y => x &&& (18446744073709551615 - y)) s t (fun _ _ => by kernel_rfl) (fun k w _ => notW _ _ (wn_le s k) (wn_le t k) w) w).mono fun e w' ⟨h1, h2⟩ => ⟨by rw [h1, mixA_ns (fun k hk => wn_not s t k hk)], h2⟩

theorem and_c (s t : NS) (w : World) : Calls Tryd.prog 17 #[nsV s, nsV t] w fun e w' => e = .returned (nsV (s &&& t)) ∧ Below w.heap.size w w' := by
  go_enter Tryd.func17, Tryd.ntmps17
  go_wp2_with fail
  refine (eachAnd s t _).mono ?_
  rintro e w1 ⟨rfl, hb⟩
  have h3 : Blk w1 (w.heap.size + 2) 24 #[.int .u64 0, .int .u64 0, .int .u64 0, .int .u64 0] := Blk.after (Blk.new' (by simp)) hb
  obtain ⟨r1, r2, r3⟩ := h3.rules
  have H3 := Lib.hid h3; have HL := Lib.hid hb
  clear h3 hb
  go_wp2
  exact post_cell rfl rfl (H3.out.four _ _ _ _) Tryd.underlying24 rfl (by kernel_rfl) rfl ⟨rfl, below_four (below_then ((((Below.refl _ _).alloc (by simp) _).alloc (by simp) _).alloc (by simp; omega) _) (by simp; omega) HL.out) (by omega) _ _ _ _⟩
theorem or_c (s t : NS) (w : World) : Calls Tryd.prog 19 #[nsV s, nsV t] w fun e w' => e = .returned (nsV (s ||| t)) ∧ Below w.heap.size w w' := by
  go_enter Tryd.func19, Tryd.ntmps19
  go_wp2_with fail
  refine (eachOr s t _).mono ?_
  rintro e w1 ⟨rfl, hb⟩
  have h3 : Blk w1 (w.heap.size + 2) 24 #[.int .u64 0, .int .u64 0, .int .u64 0, .int .u64 0] := Blk.after (Blk.new' (by simp)) hb
  obtain ⟨r1, r2, r3⟩ := h3.rules
  have H3 := Lib.hid h3; have HL := Lib.hid hb
  clear h3 hb
  go_wp2
  exact post_cell rfl rfl (H3.out.four _ _ _ _) Tryd.underlying24 rfl (by kernel_rfl) rfl ⟨rfl, below_four (below_then ((((Below.refl _ _).alloc (by simp) _).alloc (by simp) _).alloc (by simp; omega) _) (by simp; omega) HL.out) (by omega) _ _ _ _⟩
theorem not_c (s t : NS) (w : World) : Calls Tryd.prog 21 #[nsV s, nsV t] w fun e w' => e = .returned (nsV (notS s t)) ∧ Below w.heap.size w w' := by
  go_enter Tryd.func21, Tryd.ntmps21
  go_wp2_with fail
  refine (eachNot s t _).mono ?_
  rintro e w1 ⟨rfl, hb⟩
  have h3 : Blk w1 (w.heap.size + 2) 24 #[.int .u64 0, .int .u64 0, .int .u64 0, .int .u64 0] := Blk.after (Blk.new' (by simp)) hb
  obtain ⟨r1, r2, r3⟩ := h3.rules
  have H3 := Lib.hid h3; have HL := Lib.hid hb
  clear h3 hb
  go_wp2
  exact post_cell rfl rfl (H3.out.four _ _ _ _) Tryd.underlying24 rfl (by kernel_rfl) rfl ⟨rfl, below_four (below_then ((((Below.refl _ _).alloc (by simp) _).alloc (by simp) _).alloc (by simp; omega) _) (by simp; omega) HL.out) (by omega) _ _ _ _⟩

/-! ### '==' on two sets -/
@[go_sem] theorem eq_arr (a0 a1 a2 a3 b0 b1 b2 b3 : Int) (w : World) :
    (Op.equalIn 10000 24 (.agg #[.int .u64 a0, .int .u64 a1, .int .u64 a2, .int .u64 a3]) (.agg #[.int .u64 b0, .int .u64 b1, .int .u64 b2, .int .u64 b3])).run Tryd.prog w = .ok (a0 == b0 && (a1 == b1 && (a2 == b2 && a3 == b3))) w := by
  have e : ∀ a b : Int, (Op.equalIn 9999 22 (.int .u64 a) (.int .u64 b)).run Tryd.prog w = .ok (a == b) w := fun a b => run_equalIn_int w 9998 22 .u64 .u64 a b Tryd.underlying22
  have hs : (sizeOf 22).run Tryd.prog w = .ok 1 w := by kernel_rfl
  have p : ∀ (x0 x1 x2 x3 : Int), (part 22 #[.int .u64 x0, .int .u64 x1, .int .u64 x2, .int .u64 x3] (0 * 1)).run Tryd.prog w = .ok (.int .u64 x0) w ∧ (part 22 #[.int .u64 x0, .int .u64 x1, .int .u64 x2, .int .u64 x3] (1 * 1)).run Tryd.prog w = .ok (.int .u64 x1) w ∧
      (part 22 #[.int .u64 x0, .int .u64 x1, .int .u64 x2, .int .u64 x3] (2 * 1)).run Tryd.prog w = .ok (.int .u64 x2) w ∧ (part 22 #[.int .u64 x0, .int .u64 x1, .int .u64 x2, .int .u64 x3] (3 * 1)).run Tryd.prog w = .ok (.int .u64 x3) w := fun x0 x1 x2 x3 =>
    ⟨by kernel_rfl, by kernel_rfl, by kernel_rfl, by kernel_rfl⟩
  show (Op.equalIn (9999 + 1) 24 _ _).run Tryd.prog w = _
  unfold Op.equalIn
  simp only [Sem.run_bind, run_underlying Tryd.underlying24, Result.andThen_ok, hs]
  rw [Std.Legacy.Range.forIn_eq_forIn_range']
  simp only [Std.Legacy.Range.size]
  cases h0 : (a0 == b0) <;> cases h1 : (a1 == b1) <;> cases h2 : (a2 == b2) <;> cases h3 : (a3 == b3) <;> simp [List.range', p, e, h0, h1, h2, h3]
theorem eq_words (a b : NS) : (((wn a 0 : Nat) : Int) == (wn b 0 : Nat) && (((wn a 1 : Nat) : Int) == (wn b 1 : Nat) && (((wn a 2 : Nat) : Int) == (wn b 2 : Nat) && ((wn a 3 : Nat) : Int) == (wn b 3 : Nat)))) = decide (a = b) := by
  rw [Bool.eq_iff_iff, decide_eq_true_eq]
  simp only [Bool.and_eq_true, beq_iff_eq]
  constructor
  · rintro ⟨h0, h1, h2, h3⟩
    exact ns_ext_w fun k hk => by
      rcases (show k = 0 ∨ k = 1 ∨ k = 2 ∨ k = 3 by omega) with rfl | rfl | rfl | rfl <;> omega
  · rintro rfl; simp
theorem eq_empty (a : NS) : (((wn a 0 : Nat) : Int) == 0 && (((wn a 1 : Nat) : Int) == 0 && (((wn a 2 : Nat) : Int) == 0 && ((wn a 3 : Nat) : Int) == 0))) = decide (a = emptyS) := by
  have h := eq_words a emptyS
  have e : ∀ k, wn emptyS k = 0 := fun k => by unfold wn emptyS; simp
  simp only [e] at h
  exact h
end Go.Proofs.YtmhbblkihjmonaaDoor
