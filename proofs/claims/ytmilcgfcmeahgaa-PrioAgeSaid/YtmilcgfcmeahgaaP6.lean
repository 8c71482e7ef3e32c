/- Prio: cmp.Compare, cmp.Or of three. -/
import Derived.Test.YtmilcgfcmeahgaaP5
import Derived.Test.YtmilcgfcmeahgaaBq
set_option linter.unusedVariables false
namespace Go.Proofs.Ytmilcgfcmeahgaa
open Go.RowKit

/-- A slice literal, the world behind kept abstract. -/
theorem wpList_build_b {P : Program} {ops : Array Oper} {rest : List Oper} {o : Oper} {a : Act} {W : World} {Q : Exit → Act → World → Prop} (hg : o.guard = none) (dst : Option Tmp) (hdst : o.dst = dst) (ty : TypeId) (n : Nat) (cs : Array Value)
    (hrun : (execOp a.eval o).run P W = .ok (.value (.slice (some ⟨W.heap.size, 0, none⟩) n n)) (W.alloc (.cells cs ty)))
    (h : ∀ g W', Below W.heap.size W W' → Blk W' g ty cs → W.heap.size ≤ g → wpList P ops Q rest (a.put dst (.slice (some ⟨g, 0, none⟩) n n)) W') : wpList P ops Q (o :: rest) a W :=
  Go.Great.wpList_allocTo hg dst hdst _ _ hrun (h _ _ ((Below.refl _ _).alloc (Nat.le_refl _) _) (Blk.new _ _ _) (Nat.le_refl _))

def cmpV (a b : Int) : Int := if a < b then -1 else if b < a then 1 else 0
theorem isnan_c (a : Int) (w : World) : Calls Try.prog 29 #[.int .i64 a] w fun e w' => e = .returned (.bool false) ∧ w = w' := by
  go_enter Try.func29, Try.ntmps29
  go_wp2
  go_ret
  exact ⟨rfl, rfl⟩
theorem compare_c (a b : Int) (w : World) : Calls Try.prog 25 #[.int .i64 a, .int .i64 b] w fun e w' => e = .returned (.int .i64 (cmpV a b)) ∧ w = w' := by
  by_cases h1 : a < b
  · have e : cmpV a b = -1 := by unfold cmpV; rw [if_pos h1]
    rw [e]; clear e
    go_enter Try.func25, Try.ntmps25
    go_wp2_with ((with_reducible refine (isnan_c _ _).mono ?_); rintro e w' ⟨rfl, rfl⟩)
    go_ret; exact ⟨rfl, rfl⟩
  · by_cases h2 : b < a
    · have e : cmpV a b = 1 := by unfold cmpV; rw [if_neg h1, if_pos h2]
      rw [e]; clear e
      go_enter Try.func25, Try.ntmps25
      go_wp2_with ((with_reducible refine (isnan_c _ _).mono ?_); rintro e w' ⟨rfl, rfl⟩)
      go_ret; exact ⟨rfl, rfl⟩
    · have e : cmpV a b = 0 := by unfold cmpV; rw [if_neg h1, if_neg h2]
      rw [e]; clear e
      go_enter Try.func25, Try.ntmps25
      go_wp2_with ((with_reducible refine (isnan_c _ _).mono ?_); rintro e w' ⟨rfl, rfl⟩)
      go_ret; exact ⟨rfl, rfl⟩
def orV (x y z : Int) : Int := if x = 0 then if y = 0 then z else y else x
set_option maxRecDepth 100000 in
theorem or3_c (x y z : Int) (g : Nat) (w : World) (hB : Blk w g 3 #[.int .i64 x, .int .i64 y, .int .i64 z]) : Calls Try.prog 24 #[.slice (some ⟨g, 0, none⟩) 3 3] w fun e w' => e = .returned (.int .i64 (orV x y z)) ∧ w = w' := by
  obtain ⟨q1, q2, q3⟩ := hB.rules
  clear hB
  have HV := Lib.hid (show orV x y z = if x = 0 then if y = 0 then z else y else x from rfl)
  obtain ⟨v, hv⟩ : ∃ v, v = orV x y z := ⟨_, rfl⟩
  rw [← hv] at HV ⊢
  clear hv
  go_enter Try.func24, Try.ntmps24
  go_wp2
  go_loop [5, 8, 16] (fun _ i _ => ∃ k : Nat, k ≤ 3 ∧ i = .int .i64 k ∧ (1 ≤ k → x = 0) ∧ (2 ≤ k → y = 0) ∧ (3 ≤ k → z = 0)) (fun _ i _ => 3 - (intOf i).toNat)
  case atStart => exact ⟨0, by omega, rfl, by omega, by omega, by omega⟩
  case round =>
    obtain ⟨k, hk, rfl, h1, h2, h3⟩ := hrel
    match k, hk with
    | 0, _ =>
      clear h1 h2 h3
      by_cases hx : x = 0
      · have HX := Lib.hid hx
        have hb : (x != 0) = false := by simp [hx]
        clear hx
        go_wp2
        go_round
        case rel => exact ⟨1, by omega, rfl, fun _ => HX.out, by omega, by omega⟩
        case measure => simp [intOf]
      · have hb : (x != 0) = true := by simp [hx]
        have HX := Lib.hid hx
        clear hx
        go_wp2
        go_ret
        exact ⟨ret_i (by rw [HV.out, if_neg HX.out]), rfl⟩
    | 1, _ =>
      have HX := Lib.hid (h1 (by omega))
      clear h1 h2 h3
      by_cases hx : y = 0
      · have HY := Lib.hid hx
        have hb : (y != 0) = false := by simp [hx]
        clear hx
        go_wp2
        go_round
        case rel => exact ⟨2, by omega, rfl, fun _ => HX.out, fun _ => HY.out, by omega⟩
        case measure => simp [intOf]
      · have hb : (y != 0) = true := by simp [hx]
        have HY := Lib.hid hx
        clear hx
        go_wp2
        go_ret
        exact ⟨ret_i (by rw [HV.out, if_pos HX.out, if_neg HY.out]), rfl⟩
    | 2, _ =>
      have HX := Lib.hid (And.intro (h1 (by omega)) (h2 (by omega)))
      clear h1 h2 h3
      by_cases hx : z = 0
      · have HY := Lib.hid hx
        have hb : (z != 0) = false := by simp [hx]
        clear hx
        go_wp2
        go_round
        case rel => exact ⟨3, by omega, rfl, fun _ => HX.out.1, fun _ => HX.out.2, fun _ => HY.out⟩
        case measure => simp [intOf]
      · have hb : (z != 0) = true := by simp [hx]
        have HY := Lib.hid hx
        clear hx
        go_wp2
        go_ret
        exact ⟨ret_i (by rw [HV.out, if_pos HX.out.1, if_pos HX.out.2]), rfl⟩
    | 3, _ =>
      have HX := Lib.hid (And.intro (h1 (by omega)) (And.intro (h2 (by omega)) (h3 (by omega))))
      clear h1 h2 h3
      go_wp2
      go_ret
      exact ⟨ret_i (by rw [HV.out, if_pos HX.out.1, if_pos HX.out.2.1, HX.out.2.2]), rfl⟩
end Go.Proofs.Ytmilcgfcmeahgaa
