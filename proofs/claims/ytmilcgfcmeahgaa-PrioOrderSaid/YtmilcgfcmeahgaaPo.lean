/- Prio: the arguments' shapes. Printed by gen_po.py. -/
import Derived.Test.YtmilcgfcmeahgaaLw
import Derived.Test.YtmilcgfcmeahgaaP9
set_option linter.unusedVariables false
namespace Go.Proofs.Ytmilcgfcmeahgaa
open Go.ChangeShapes Go.WideShapes Go.ChangeAt Go.RowKit

theorem cof_int {H : Type} {enc : TypeId × Value → H} {W : World} {base n : Nat} {sp : Nat → Bool} {hd : Bool} {c0 : Value} {x : DataW H × List MemPlace}
    (hf : DataW.trod enc Try.prog W base sp hd n 3 [c0] = some x) : ∃ i0 : Int, (c0 = .int .i64 i0) ∧ ((-9223372036854775808 ≤ i0 ∧ i0 ≤ 9223372036854775807)) := by
  obtain ⟨x0, e0, rfl, w0⟩ := DataW.trod_int Try.underlying3 hf
  simp at e0
  subst e0
  exact ⟨x0, rfl, bounds_i64 w0⟩

theorem cof_F {H : Type} {enc : TypeId × Value → H} {W : World} {base n : Nat} {sp : Nat → Bool} {hd : Bool} {c0 c1 c2 c3 c4 c5 : Value} {x : DataW H × List MemPlace}
    (hf : DataW.trod enc Try.prog W base sp hd n 23 [c0, c1, c2, c3, c4, c5] = some x) : ∃ i0 : Int, ∃ i1 : Int, ∃ i2 : Int, ∃ i3 : Int, ∃ i4 : Int, ∃ i5 : Int, (c0 = .int .i64 i0 ∧ c1 = .int .i64 i1 ∧ c2 = .int .i64 i2 ∧ c3 = .int .i64 i3 ∧ c4 = .int .i64 i4 ∧ c5 = .int .i64 i5) ∧ ((-9223372036854775808 ≤ i0 ∧ i0 ≤ 9223372036854775807) ∧ (-9223372036854775808 ≤ i1 ∧ i1 ≤ 9223372036854775807) ∧ (-9223372036854775808 ≤ i2 ∧ i2 ≤ 9223372036854775807) ∧ (-9223372036854775808 ≤ i3 ∧ i3 ≤ 9223372036854775807) ∧ (-9223372036854775808 ≤ i4 ∧ i4 ≤ 9223372036854775807) ∧ (-9223372036854775808 ≤ i5 ∧ i5 ≤ 9223372036854775807)) := by
  have h_cof_int : Try.prog.cellsOf 3 = 1 := by kernel_rfl
  obtain ⟨xs, n, _, hx, hl, hlen, hg⟩ := DataW.trod_struct Try.underlying23 hf
  match xs, hlen, hg with
  | [y0, y1, y2, y3, y4, y5], _, hg =>
    have g0 : DataW.trod enc Try.prog W base sp hd n 3 (([c0, c1, c2, c3, c4, c5] : List Value).drop (0) |>.take (Try.prog.cellsOf 3)) = some y0 := hg 0 _ rfl
    rw [h_cof_int] at g0
    have g1 : DataW.trod enc Try.prog W base sp hd n 3 (([c0, c1, c2, c3, c4, c5] : List Value).drop (1) |>.take (Try.prog.cellsOf 3)) = some y1 := hg 1 _ rfl
    rw [h_cof_int] at g1
    have g2 : DataW.trod enc Try.prog W base sp hd n 3 (([c0, c1, c2, c3, c4, c5] : List Value).drop (2) |>.take (Try.prog.cellsOf 3)) = some y2 := hg 2 _ rfl
    rw [h_cof_int] at g2
    have g3 : DataW.trod enc Try.prog W base sp hd n 3 (([c0, c1, c2, c3, c4, c5] : List Value).drop (3) |>.take (Try.prog.cellsOf 3)) = some y3 := hg 3 _ rfl
    rw [h_cof_int] at g3
    have g4 : DataW.trod enc Try.prog W base sp hd n 3 (([c0, c1, c2, c3, c4, c5] : List Value).drop (4) |>.take (Try.prog.cellsOf 3)) = some y4 := hg 4 _ rfl
    rw [h_cof_int] at g4
    have g5 : DataW.trod enc Try.prog W base sp hd n 3 (([c0, c1, c2, c3, c4, c5] : List Value).drop (5) |>.take (Try.prog.cellsOf 3)) = some y5 := hg 5 _ rfl
    rw [h_cof_int] at g5
    obtain ⟨v0, rfl, b0⟩ := cof_int (c0 := c0) g0
    obtain ⟨v1, rfl, b1⟩ := cof_int (c0 := c1) g1
    obtain ⟨v2, rfl, b2⟩ := cof_int (c0 := c2) g2
    obtain ⟨v3, rfl, b3⟩ := cof_int (c0 := c3) g3
    obtain ⟨v4, rfl, b4⟩ := cof_int (c0 := c4) g4
    obtain ⟨v5, rfl, b5⟩ := cof_int (c0 := c5) g5
    exact ⟨v0, v1, v2, v3, v4, v5, ⟨rfl, rfl, rfl, rfl, rfl, rfl⟩, ⟨b0, b1, b2, b3, b4, b5⟩⟩

theorem open_facts {H : Type} {enc : TypeId × Value → H} {W : World} {base : Nat} {v : Value} {d : DataW H} {p : List MemPlace}
    (hval : Value.okWide Try.prog W .any base 23 v) (h : DataW.Trod enc Try.prog W 0 (fun _ => true) true 23 v d p) : ∃ f : Fa, v = fV f := by
  obtain ⟨cs, rfl, hsz, _⟩ : ∃ cs, v = .agg cs ∧ cs.size = Try.prog.cellsOf 23 ∧ Row.okWide Try.prog W .any base 23 cs := by
    simpa [Value.okWide, Try.underlying23] using hval
  rw [show Try.prog.cellsOf 23 = 6 by kernel_rfl] at hsz
  obtain ⟨l⟩ := cs
  obtain ⟨fuel, hf⟩ := h
  match l, hsz, hf with
  | [c0, c1, c2, c3, c4, c5], _, hf =>
    obtain ⟨v0, v1, v2, v3, v4, v5, ⟨rfl, rfl, rfl, rfl, rfl, rfl⟩, ⟨b0, b1, b2, b3, b4, b5⟩⟩ := cof_F (c0 := c0) (c1 := c1) (c2 := c2) (c3 := c3) (c4 := c4) (c5 := c5) hf
    exact ⟨⟨v0, v1, v2, v3, v4, v5⟩, rfl⟩

theorem cof_W {H : Type} {enc : TypeId × Value → H} {W : World} {base n : Nat} {sp : Nat → Bool} {hd : Bool} {c0 c1 c2 c3 c4 c5 : Value} {x : DataW H × List MemPlace}
    (hf : DataW.trod enc Try.prog W base sp hd n 25 [c0, c1, c2, c3, c4, c5] = some x) : ∃ i0 : Int, ∃ i1 : Int, ∃ i2 : Int, ∃ i3 : Int, ∃ i4 : Int, ∃ i5 : Int, (c0 = .int .i64 i0 ∧ c1 = .int .i64 i1 ∧ c2 = .int .i64 i2 ∧ c3 = .int .i64 i3 ∧ c4 = .int .i64 i4 ∧ c5 = .int .i64 i5) ∧ ((-9223372036854775808 ≤ i0 ∧ i0 ≤ 9223372036854775807) ∧ (-9223372036854775808 ≤ i1 ∧ i1 ≤ 9223372036854775807) ∧ (-9223372036854775808 ≤ i2 ∧ i2 ≤ 9223372036854775807) ∧ (-9223372036854775808 ≤ i3 ∧ i3 ≤ 9223372036854775807) ∧ (-9223372036854775808 ≤ i4 ∧ i4 ≤ 9223372036854775807) ∧ (-9223372036854775808 ≤ i5 ∧ i5 ≤ 9223372036854775807)) := by
  have h_cof_int : Try.prog.cellsOf 3 = 1 := by kernel_rfl
  obtain ⟨xs, n, _, hx, hl, hlen, hg⟩ := DataW.trod_struct Try.underlying25 hf
  match xs, hlen, hg with
  | [y0, y1, y2, y3, y4, y5], _, hg =>
    have g0 : DataW.trod enc Try.prog W base sp hd n 3 (([c0, c1, c2, c3, c4, c5] : List Value).drop (0) |>.take (Try.prog.cellsOf 3)) = some y0 := hg 0 _ rfl
    rw [h_cof_int] at g0
    have g1 : DataW.trod enc Try.prog W base sp hd n 3 (([c0, c1, c2, c3, c4, c5] : List Value).drop (1) |>.take (Try.prog.cellsOf 3)) = some y1 := hg 1 _ rfl
    rw [h_cof_int] at g1
    have g2 : DataW.trod enc Try.prog W base sp hd n 3 (([c0, c1, c2, c3, c4, c5] : List Value).drop (2) |>.take (Try.prog.cellsOf 3)) = some y2 := hg 2 _ rfl
    rw [h_cof_int] at g2
    have g3 : DataW.trod enc Try.prog W base sp hd n 3 (([c0, c1, c2, c3, c4, c5] : List Value).drop (3) |>.take (Try.prog.cellsOf 3)) = some y3 := hg 3 _ rfl
    rw [h_cof_int] at g3
    have g4 : DataW.trod enc Try.prog W base sp hd n 3 (([c0, c1, c2, c3, c4, c5] : List Value).drop (4) |>.take (Try.prog.cellsOf 3)) = some y4 := hg 4 _ rfl
    rw [h_cof_int] at g4
    have g5 : DataW.trod enc Try.prog W base sp hd n 3 (([c0, c1, c2, c3, c4, c5] : List Value).drop (5) |>.take (Try.prog.cellsOf 3)) = some y5 := hg 5 _ rfl
    rw [h_cof_int] at g5
    obtain ⟨v0, rfl, b0⟩ := cof_int (c0 := c0) g0
    obtain ⟨v1, rfl, b1⟩ := cof_int (c0 := c1) g1
    obtain ⟨v2, rfl, b2⟩ := cof_int (c0 := c2) g2
    obtain ⟨v3, rfl, b3⟩ := cof_int (c0 := c3) g3
    obtain ⟨v4, rfl, b4⟩ := cof_int (c0 := c4) g4
    obtain ⟨v5, rfl, b5⟩ := cof_int (c0 := c5) g5
    exact ⟨v0, v1, v2, v3, v4, v5, ⟨rfl, rfl, rfl, rfl, rfl, rfl⟩, ⟨b0, b1, b2, b3, b4, b5⟩⟩

theorem open_weights {H : Type} {enc : TypeId × Value → H} {W : World} {base : Nat} {v : Value} {d : DataW H} {p : List MemPlace}
    (hval : Value.okWide Try.prog W .any base 25 v) (h : DataW.Trod enc Try.prog W 0 (fun _ => true) true 25 v d p) : ∃ f : We, v = wV f := by
  obtain ⟨cs, rfl, hsz, _⟩ : ∃ cs, v = .agg cs ∧ cs.size = Try.prog.cellsOf 25 ∧ Row.okWide Try.prog W .any base 25 cs := by
    simpa [Value.okWide, Try.underlying25] using hval
  rw [show Try.prog.cellsOf 25 = 6 by kernel_rfl] at hsz
  obtain ⟨l⟩ := cs
  obtain ⟨fuel, hf⟩ := h
  match l, hsz, hf with
  | [c0, c1, c2, c3, c4, c5], _, hf =>
    obtain ⟨v0, v1, v2, v3, v4, v5, ⟨rfl, rfl, rfl, rfl, rfl, rfl⟩, ⟨b0, b1, b2, b3, b4, b5⟩⟩ := cof_W (c0 := c0) (c1 := c1) (c2 := c2) (c3 := c3) (c4 := c4) (c5 := c5) hf
    exact ⟨⟨v0, v1, v2, v3, v4, v5⟩, rfl⟩

theorem cof__3_F {H : Type} {enc : TypeId × Value → H} {W : World} {base n : Nat} {sp : Nat → Bool} {hd : Bool} {c0 c1 c2 c3 c4 c5 c6 c7 c8 c9 c10 c11 c12 c13 c14 c15 c16 c17 : Value} {x : DataW H × List MemPlace}
    (hf : DataW.trod enc Try.prog W base sp hd n 41 [c0, c1, c2, c3, c4, c5, c6, c7, c8, c9, c10, c11, c12, c13, c14, c15, c16, c17] = some x) : ∃ i0 : Int, ∃ i1 : Int, ∃ i2 : Int, ∃ i3 : Int, ∃ i4 : Int, ∃ i5 : Int, ∃ i6 : Int, ∃ i7 : Int, ∃ i8 : Int, ∃ i9 : Int, ∃ i10 : Int, ∃ i11 : Int, ∃ i12 : Int, ∃ i13 : Int, ∃ i14 : Int, ∃ i15 : Int, ∃ i16 : Int, ∃ i17 : Int, (c0 = .int .i64 i0 ∧ c1 = .int .i64 i1 ∧ c2 = .int .i64 i2 ∧ c3 = .int .i64 i3 ∧ c4 = .int .i64 i4 ∧ c5 = .int .i64 i5 ∧ c6 = .int .i64 i6 ∧ c7 = .int .i64 i7 ∧ c8 = .int .i64 i8 ∧ c9 = .int .i64 i9 ∧ c10 = .int .i64 i10 ∧ c11 = .int .i64 i11 ∧ c12 = .int .i64 i12 ∧ c13 = .int .i64 i13 ∧ c14 = .int .i64 i14 ∧ c15 = .int .i64 i15 ∧ c16 = .int .i64 i16 ∧ c17 = .int .i64 i17) ∧ ((-9223372036854775808 ≤ i0 ∧ i0 ≤ 9223372036854775807) ∧ (-9223372036854775808 ≤ i1 ∧ i1 ≤ 9223372036854775807) ∧ (-9223372036854775808 ≤ i2 ∧ i2 ≤ 9223372036854775807) ∧ (-9223372036854775808 ≤ i3 ∧ i3 ≤ 9223372036854775807) ∧ (-9223372036854775808 ≤ i4 ∧ i4 ≤ 9223372036854775807) ∧ (-9223372036854775808 ≤ i5 ∧ i5 ≤ 9223372036854775807) ∧ (-9223372036854775808 ≤ i6 ∧ i6 ≤ 9223372036854775807) ∧ (-9223372036854775808 ≤ i7 ∧ i7 ≤ 9223372036854775807) ∧ (-9223372036854775808 ≤ i8 ∧ i8 ≤ 9223372036854775807) ∧ (-9223372036854775808 ≤ i9 ∧ i9 ≤ 9223372036854775807) ∧ (-9223372036854775808 ≤ i10 ∧ i10 ≤ 9223372036854775807) ∧ (-9223372036854775808 ≤ i11 ∧ i11 ≤ 9223372036854775807) ∧ (-9223372036854775808 ≤ i12 ∧ i12 ≤ 9223372036854775807) ∧ (-9223372036854775808 ≤ i13 ∧ i13 ≤ 9223372036854775807) ∧ (-9223372036854775808 ≤ i14 ∧ i14 ≤ 9223372036854775807) ∧ (-9223372036854775808 ≤ i15 ∧ i15 ≤ 9223372036854775807) ∧ (-9223372036854775808 ≤ i16 ∧ i16 ≤ 9223372036854775807) ∧ (-9223372036854775808 ≤ i17 ∧ i17 ≤ 9223372036854775807)) := by
  have h_cof_F : Try.prog.cellsOf 23 = 6 := by kernel_rfl
  obtain ⟨xs, n, _, hx, hl, hlen, hg⟩ := DataW.trod_array Try.underlying41 hf
  match xs, hlen, hg with
  | [y0, y1, y2], _, hg =>
    have g0 : DataW.trod enc Try.prog W base sp hd n 23 (([c0, c1, c2, c3, c4, c5, c6, c7, c8, c9, c10, c11, c12, c13, c14, c15, c16, c17] : List Value).drop (0 * Try.prog.cellsOf 23) |>.take (Try.prog.cellsOf 23)) = some y0 := hg 0 (by decide)
    rw [h_cof_F] at g0
    have g1 : DataW.trod enc Try.prog W base sp hd n 23 (([c0, c1, c2, c3, c4, c5, c6, c7, c8, c9, c10, c11, c12, c13, c14, c15, c16, c17] : List Value).drop (1 * Try.prog.cellsOf 23) |>.take (Try.prog.cellsOf 23)) = some y1 := hg 1 (by decide)
    rw [h_cof_F] at g1
    have g2 : DataW.trod enc Try.prog W base sp hd n 23 (([c0, c1, c2, c3, c4, c5, c6, c7, c8, c9, c10, c11, c12, c13, c14, c15, c16, c17] : List Value).drop (2 * Try.prog.cellsOf 23) |>.take (Try.prog.cellsOf 23)) = some y2 := hg 2 (by decide)
    rw [h_cof_F] at g2
    obtain ⟨v0, v1, v2, v3, v4, v5, ⟨rfl, rfl, rfl, rfl, rfl, rfl⟩, ⟨b0, b1, b2, b3, b4, b5⟩⟩ := cof_F (c0 := c0) (c1 := c1) (c2 := c2) (c3 := c3) (c4 := c4) (c5 := c5) g0
    obtain ⟨v6, v7, v8, v9, v10, v11, ⟨rfl, rfl, rfl, rfl, rfl, rfl⟩, ⟨b6, b7, b8, b9, b10, b11⟩⟩ := cof_F (c0 := c6) (c1 := c7) (c2 := c8) (c3 := c9) (c4 := c10) (c5 := c11) g1
    obtain ⟨v12, v13, v14, v15, v16, v17, ⟨rfl, rfl, rfl, rfl, rfl, rfl⟩, ⟨b12, b13, b14, b15, b16, b17⟩⟩ := cof_F (c0 := c12) (c1 := c13) (c2 := c14) (c3 := c15) (c4 := c16) (c5 := c17) g2
    exact ⟨v0, v1, v2, v3, v4, v5, v6, v7, v8, v9, v10, v11, v12, v13, v14, v15, v16, v17, ⟨rfl, rfl, rfl, rfl, rfl, rfl, rfl, rfl, rfl, rfl, rfl, rfl, rfl, rfl, rfl, rfl, rfl, rfl⟩, ⟨b0, b1, b2, b3, b4, b5, b6, b7, b8, b9, b10, b11, b12, b13, b14, b15, b16, b17⟩⟩

theorem open_facts3 {H : Type} {enc : TypeId × Value → H} {W : World} {base : Nat} {v : Value} {d : DataW H} {p : List MemPlace}
    (hval : Value.okWide Try.prog W .any base 41 v) (h : DataW.Trod enc Try.prog W 0 (fun _ => true) true 41 v d p) : ∃ a b c : Fa, v = .agg #[.int .i64 a.id, .int .i64 a.sub, .int .i64 a.nod, .int .i64 a.prt, .int .i64 a.qos, .int .i64 a.shr, .int .i64 b.id, .int .i64 b.sub, .int .i64 b.nod, .int .i64 b.prt, .int .i64 b.qos, .int .i64 b.shr, .int .i64 c.id, .int .i64 c.sub, .int .i64 c.nod, .int .i64 c.prt, .int .i64 c.qos, .int .i64 c.shr] := by
  obtain ⟨cs, rfl, hsz, _⟩ : ∃ cs, v = .agg cs ∧ cs.size = Try.prog.cellsOf 41 ∧ Row.okWide Try.prog W .any base 41 cs := by
    simpa [Value.okWide, Try.underlying41] using hval
  rw [show Try.prog.cellsOf 41 = 18 by kernel_rfl] at hsz
  obtain ⟨l⟩ := cs
  obtain ⟨fuel, hf⟩ := h
  match l, hsz, hf with
  | [c0, c1, c2, c3, c4, c5, c6, c7, c8, c9, c10, c11, c12, c13, c14, c15, c16, c17], _, hf =>
    obtain ⟨v0, v1, v2, v3, v4, v5, v6, v7, v8, v9, v10, v11, v12, v13, v14, v15, v16, v17, ⟨rfl, rfl, rfl, rfl, rfl, rfl, rfl, rfl, rfl, rfl, rfl, rfl, rfl, rfl, rfl, rfl, rfl, rfl⟩, ⟨b0, b1, b2, b3, b4, b5, b6, b7, b8, b9, b10, b11, b12, b13, b14, b15, b16, b17⟩⟩ := cof__3_F (c0 := c0) (c1 := c1) (c2 := c2) (c3 := c3) (c4 := c4) (c5 := c5) (c6 := c6) (c7 := c7) (c8 := c8) (c9 := c9) (c10 := c10) (c11 := c11) (c12 := c12) (c13 := c13) (c14 := c14) (c15 := c15) (c16 := c16) (c17 := c17) hf
    exact ⟨⟨v0, v1, v2, v3, v4, v5⟩, ⟨v6, v7, v8, v9, v10, v11⟩, ⟨v12, v13, v14, v15, v16, v17⟩, rfl⟩

theorem cof__2_int {H : Type} {enc : TypeId × Value → H} {W : World} {base n : Nat} {sp : Nat → Bool} {hd : Bool} {c0 c1 : Value} {x : DataW H × List MemPlace}
    (hf : DataW.trod enc Try.prog W base sp hd n 39 [c0, c1] = some x) : ∃ i0 : Int, ∃ i1 : Int, (c0 = .int .i64 i0 ∧ c1 = .int .i64 i1) ∧ ((-9223372036854775808 ≤ i0 ∧ i0 ≤ 9223372036854775807) ∧ (-9223372036854775808 ≤ i1 ∧ i1 ≤ 9223372036854775807)) := by
  have h_cof_int : Try.prog.cellsOf 3 = 1 := by kernel_rfl
  obtain ⟨xs, n, _, hx, hl, hlen, hg⟩ := DataW.trod_array Try.underlying39 hf
  match xs, hlen, hg with
  | [y0, y1], _, hg =>
    have g0 : DataW.trod enc Try.prog W base sp hd n 3 (([c0, c1] : List Value).drop (0 * Try.prog.cellsOf 3) |>.take (Try.prog.cellsOf 3)) = some y0 := hg 0 (by decide)
    rw [h_cof_int] at g0
    have g1 : DataW.trod enc Try.prog W base sp hd n 3 (([c0, c1] : List Value).drop (1 * Try.prog.cellsOf 3) |>.take (Try.prog.cellsOf 3)) = some y1 := hg 1 (by decide)
    rw [h_cof_int] at g1
    obtain ⟨v0, rfl, b0⟩ := cof_int (c0 := c0) g0
    obtain ⟨v1, rfl, b1⟩ := cof_int (c0 := c1) g1
    exact ⟨v0, v1, ⟨rfl, rfl⟩, ⟨b0, b1⟩⟩

theorem open_int2 {H : Type} {enc : TypeId × Value → H} {W : World} {base : Nat} {v : Value} {d : DataW H} {p : List MemPlace}
    (hval : Value.okWide Try.prog W .any base 39 v) (h : DataW.Trod enc Try.prog W 0 (fun _ => true) true 39 v d p) : ∃ x y : Int, v = .agg #[.int .i64 x, .int .i64 y] := by
  obtain ⟨cs, rfl, hsz, _⟩ : ∃ cs, v = .agg cs ∧ cs.size = Try.prog.cellsOf 39 ∧ Row.okWide Try.prog W .any base 39 cs := by
    simpa [Value.okWide, Try.underlying39] using hval
  rw [show Try.prog.cellsOf 39 = 2 by kernel_rfl] at hsz
  obtain ⟨l⟩ := cs
  obtain ⟨fuel, hf⟩ := h
  match l, hsz, hf with
  | [c0, c1], _, hf =>
    obtain ⟨v0, v1, ⟨rfl, rfl⟩, ⟨b0, b1⟩⟩ := cof__2_int (c0 := c0) (c1 := c1) hf
    exact ⟨v0, v1, rfl⟩
end Go.Proofs.Ytmilcgfcmeahgaa
