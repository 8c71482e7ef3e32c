/- Prof: what the laws call. -/
import Derived.Test.YtkgdcicaokekfaaDoorFg
set_option linter.unusedVariables false
namespace Go.Proofs.YtkgdcicaokekfaaDoor
open Go.RowKit Go.Sort

theorem atBuild {P : Program} {ops : Array Oper} {Q : Exit → Act → World → Prop} {dst : Option Tmp} {t' : TypeId} {ty : TypeId} {n : Nat} {xs : Array (Nat × Operand)} {pos : String} {after : Array Edge} {rest : List Oper} {a : Act} {W : World}
    (h : wpList P ops Q ({ dst := dst, op := .buildSlice ty n xs, type := t', pos := pos, after := after, guard := none } :: rest) a W) : wpList P ops Q ({ dst := dst, op := .buildSlice ty n xs, type := t', pos := pos, after := after, guard := none } :: rest) a W := h
/-- A call of a script. -/
structure Ak where
  give : Bool
  s : NS
  lo : Int
  hi : Int
abbrev akL (a : Ak) : List Value := [.bool a.give, .int .u64 (wn a.s 0 : Nat), .int .u64 (wn a.s 1 : Nat), .int .u64 (wn a.s 2 : Nat), .int .u64 (wn a.s 3 : Nat), .int .i64 a.lo, .int .i64 a.hi]
abbrev akA (a : Ak) : Array Value := #[.bool a.give, .int .u64 (wn a.s 0 : Nat), .int .u64 (wn a.s 1 : Nat), .int .u64 (wn a.s 2 : Nat), .int .u64 (wn a.s 3 : Nat), .int .i64 a.lo, .int .i64 a.hi]
abbrev akV (a : Ak) : Value := .agg (akA a)
/-- A profile of a law: it begins at 0, and is not too long. -/
structure Good (l : List (Sp NS)) : Prop where
  len : l.length ≤ 4096
  prf : Prf 0 2199023255552 l
theorem Good.ok {w : World} {g : Nat} {nodes : NS} {A : Option Addr} {c : Nat} {l : List (Sp NS)} (h : Good l) (ho : (Own.pf g nodes A c l).ok w) : PfOk w g nodes A c l 0 := ⟨ho, by have := h.len; omega, h.prf, Int.le_refl _⟩
noncomputable def doesE (nodes : NS) (l : List (Sp NS)) (a : Ak) : Int := if a.give = true then giveE nodes l 0 a.lo a.hi a.s else takeE nodes l 0 a.lo a.hi a.s
noncomputable def doesL (nodes : NS) (l : List (Sp NS)) (a : Ak) : List (Sp NS) := if a.give = true then giveL nodes l 0 a.lo a.hi a.s else takeL nodes l 0 a.lo a.hi a.s
theorem takeE_zero {nodes : NS} {l : List (Sp NS)} {t0 lo hi : Int} {s : NS} (h : takeE nodes l t0 lo hi s = 0) : spanE t0 lo hi = 0 ∧ notS s nodes = emptyS ∧ notS s (durS nodes l lo hi) = emptyS ∧ (turnL 2199023255552 lo hi (fun f => notS f s) [] l).length ≤ 4096 := by
  unfold takeE at h
  rcases spanE_cases t0 lo hi with h1 | h1
  · rw [if_neg (by omega)] at h
    by_cases h2 : notS s nodes = emptyS
    · rw [if_neg (fun h => h h2)] at h
      by_cases h3 : notS s (durS nodes l lo hi) = emptyS
      · rw [if_neg (fun h => h h3)] at h
        split at h
        · omega
        · exact ⟨h1, h2, h3, by omega⟩
      · rw [if_pos h3] at h; omega
    · rw [if_pos h2] at h; omega
  · rw [if_pos h1] at h; omega
theorem giveE_zero {nodes : NS} {l : List (Sp NS)} {t0 lo hi : Int} {s : NS} (h : giveE nodes l t0 lo hi s = 0) : spanE t0 lo hi = 0 ∧ notS s nodes = emptyS ∧ NoneIn l lo hi s ∧ (turnL 2199023255552 lo hi (fun f => f ||| s) [] l).length ≤ 4096 := by
  unfold giveE at h
  rcases spanE_cases t0 lo hi with h1 | h1
  · rw [if_neg (by omega)] at h
    by_cases h2 : notS s nodes = emptyS
    · rw [if_neg (fun h => h h2)] at h
      by_cases h3 : NoneIn l lo hi s
      · rw [if_neg (fun h => h h3)] at h
        split at h
        · omega
        · exact ⟨h1, h2, h3, by omega⟩
      · rw [if_pos h3] at h; omega
    · rw [if_pos h2] at h; omega
  · rw [if_pos h1] at h; omega
theorem Good.take {nodes : NS} {l : List (Sp NS)} {lo hi : Int} {s : NS} (h : Good l) : Good (takeL nodes l 0 lo hi s) := by
  unfold takeL
  by_cases h1 : takeE nodes l 0 lo hi s = 0
  · rw [if_pos h1]
    have h2 := takeE_zero h1
    exact ⟨h2.2.2.2, (turn_prf (d := emptyS) h.prf (spanE_zero h2.1).2.1).1⟩
  · rw [if_neg h1]; exact h
theorem Good.give {nodes : NS} {l : List (Sp NS)} {lo hi : Int} {s : NS} (h : Good l) : Good (giveL nodes l 0 lo hi s) := by
  unfold giveL
  by_cases h1 : giveE nodes l 0 lo hi s = 0
  · rw [if_pos h1]
    have h2 := giveE_zero h1
    exact ⟨h2.2.2.2, (turn_prf (d := emptyS) h.prf (spanE_zero h2.1).2.1).1⟩
  · rw [if_neg h1]; exact h
theorem Good.does {nodes : NS} {l : List (Sp NS)} {a : Ak} (h : Good l) : Good (doesL nodes l a) := by
  unfold doesL
  split
  · exact h.give
  · exact h.take
set_option maxRecDepth 100000 in
set_option maxHeartbeats 4000000 in
theorem does_c (g : Nat) (nodes : NS) (A : Option Addr) (c : Nat) (l : List (Sp NS)) (a : Ak) (w : World) (hG : Good l) (h : (Own.pf g nodes A c l).ok w) :
    Calls Tryd.prog 10 #[.pointer (some ⟨g, 0, none⟩), akV a] w (PfPost w g nodes A c l (.int .i64 (doesE nodes l a)) (doesL nodes l a)) := by
  have HGd := Lib.hid hG
  have HOk := Lib.hid h
  have HD := Lib.hid (show doesE nodes l a = if a.give = true then giveE nodes l 0 a.lo a.hi a.s else takeE nodes l 0 a.lo a.hi a.s from rfl)
  have HD2 := Lib.hid (show doesL nodes l a = if a.give = true then giveL nodes l 0 a.lo a.hi a.s else takeL nodes l 0 a.lo a.hi a.s from rfl)
  obtain ⟨v, hv⟩ : ∃ v, v = doesE nodes l a := ⟨_, rfl⟩
  obtain ⟨l', hl'⟩ : ∃ l', l' = doesL nodes l a := ⟨_, rfl⟩
  rw [← hv] at HD ⊢
  rw [← hl'] at HD2 ⊢
  obtain ⟨gv, s, lo, hi⟩ := a
  clear hG h hv hl'
  cases gv
  · go_enter Tryd.func10, Tryd.ntmps10
    have HS0 := Lib.hid (Ms.start (o := .pf g nodes A c l) HOk.out)
    go_wp2_with (first
      | (have hq := HS0; clear hq; (with_reducible refine atBox ?_); refine wpList_alloc_b rfl (some 3) rfl 27 (#[.bool false, .int .u64 (wn s 0 : Nat), .int .u64 (wn s 1 : Nat), .int .u64 (wn s 2 : Nat), .int .u64 (wn s 3 : Nat), .int .i64 lo, .int .i64 hi]) (by kernel_rfl) ?_; intro g1 W1 hb hB hg; have HS1 := Lib.hid (HS0.out.new hb hB hg); clear hb hB hg HS0; obtain ⟨r1a, r1b, r1c⟩ := HS1.out.rules 1 rfl)
      | (have hq := HS1; clear hq; (with_reducible refine atLoad ?_); refine wpList_load_at rfl 24 _ rfl (HS1.out.at_ 1 rfl) 4 (.agg #[.int .u64 (wn s 0 : Nat), .int .u64 (wn s 1 : Nat), .int .u64 (wn s 2 : Nat), .int .u64 (wn s 3 : Nat)]) rfl _ Tryd.underlying24 rfl (by kernel_rfl) (Nat.le_of_ble_eq_true rfl) rfl ?_))
    refine (take_c g nodes A c l 0 lo hi s _ (HGd.out.ok (HS1.out.ok 0 _ rfl)) HGd.out.len).mono ?_
    rintro e W2 ⟨rfl, A2, c2, hM⟩
    have HS2 := Lib.hid (HS1.out.call 0 rfl hM)
    clear hM HS1 r1a r1b r1c
    go_wp2_with fail
    go_ret
    refine ⟨by rw [HD.out]; rfl, A2, c2, ?_⟩
    have h1 := (Ms.cut (l := [.pf g nodes A2 c2 (takeL nodes l 0 lo hi s)]) (k := [(.blk g1 27 #[.bool false, .int .u64 (wn s 0 : Nat), .int .u64 (wn s 1 : Nat), .int .u64 (wn s 2 : Nat), .int .u64 (wn s 3 : Nat), .int .i64 lo, .int .i64 hi])]) HS2.out)
    rw [HD2.out]
    exact h1
  · go_enter Tryd.func10, Tryd.ntmps10
    have HS0 := Lib.hid (Ms.start (o := .pf g nodes A c l) HOk.out)
    go_wp2_with (first
      | (have hq := HS0; clear hq; (with_reducible refine atBox ?_); refine wpList_alloc_b rfl (some 3) rfl 27 (#[.bool true, .int .u64 (wn s 0 : Nat), .int .u64 (wn s 1 : Nat), .int .u64 (wn s 2 : Nat), .int .u64 (wn s 3 : Nat), .int .i64 lo, .int .i64 hi]) (by kernel_rfl) ?_; intro g1 W1 hb hB hg; have HS1 := Lib.hid (HS0.out.new hb hB hg); clear hb hB hg HS0; obtain ⟨r1a, r1b, r1c⟩ := HS1.out.rules 1 rfl)
      | (have hq := HS1; clear hq; (with_reducible refine atLoad ?_); refine wpList_load_at rfl 24 _ rfl (HS1.out.at_ 1 rfl) 4 (.agg #[.int .u64 (wn s 0 : Nat), .int .u64 (wn s 1 : Nat), .int .u64 (wn s 2 : Nat), .int .u64 (wn s 3 : Nat)]) rfl _ Tryd.underlying24 rfl (by kernel_rfl) (Nat.le_of_ble_eq_true rfl) rfl ?_))
    refine (give_c g nodes A c l 0 lo hi s _ (HGd.out.ok (HS1.out.ok 0 _ rfl)) HGd.out.len).mono ?_
    rintro e W2 ⟨rfl, A2, c2, hM⟩
    have HS2 := Lib.hid (HS1.out.call 0 rfl hM)
    clear hM HS1 r1a r1b r1c
    go_wp2_with fail
    go_ret
    refine ⟨by rw [HD.out]; rfl, A2, c2, ?_⟩
    have h1 := (Ms.cut (l := [.pf g nodes A2 c2 (giveL nodes l 0 lo hi s)]) (k := [(.blk g1 27 #[.bool true, .int .u64 (wn s 0 : Nat), .int .u64 (wn s 1 : Nat), .int .u64 (wn s 2 : Nat), .int .u64 (wn s 3 : Nat), .int .i64 lo, .int .i64 hi])]) HS2.out)
    rw [HD2.out]
    exact h1
end Go.Proofs.YtkgdcicaokekfaaDoor
