/- Prof: the arguments of the laws. Printed by gen_fs.py. -/
import Derived.Test.YtkgdcicaokekfaaDoorLw
import Derived.Test.YtkgdcicaokekfaaDoorFk
import Derived.Deep.Slices
set_option linter.unusedVariables false
namespace Go.Proofs.YtkgdcicaokekfaaDoor
open Go.ChangeShapes Go.WideShapes Go.ChangeAt Go.RowKit Go.Deep

theorem bounds_i64 {x : Int} (h : (Lit.int .i64 x).wf = true) : -9223372036854775808 ≤ x ∧ x ≤ 9223372036854775807 := by simpa [Lit.wf, IntKind.min, IntKind.max, IntKind.signed, IntKind.bits] using h
theorem bounds_u64 {x : Int} (h : (Lit.int .u64 x).wf = true) : 0 ≤ x ∧ x ≤ 18446744073709551615 := by simpa [Lit.wf, IntKind.min, IntKind.max, IntKind.signed, IntKind.bits] using h
abbrev askV (n long lo : Int) (of : NS) : Value := .agg #[.int .i64 n, .int .i64 long, .int .i64 lo, .int .u64 (wn of 0 : Nat), .int .u64 (wn of 1 : Nat), .int .u64 (wn of 2 : Nat), .int .u64 (wn of 3 : Nat)]
theorem cof_uint64 {H : Type} {enc : TypeId × Value → H} {W : World} {base n : Nat} {sp : Nat → Bool} {hd : Bool} {c0 : Value} {x : DataW H × List MemPlace}
    (hf : DataW.trod enc Tryd.prog W base sp hd n 22 [c0] = some x) : ∃ i0 : Int, (c0 = .int .u64 i0) ∧ ((0 ≤ i0 ∧ i0 ≤ 18446744073709551615)) := by
  obtain ⟨x0, e0, rfl, w0⟩ := DataW.trod_int Tryd.underlying22 hf
  simp at e0
  subst e0
  exact ⟨x0, rfl, bounds_u64 w0⟩

theorem cof_api_Nodes {H : Type} {enc : TypeId × Value → H} {W : World} {base n : Nat} {sp : Nat → Bool} {hd : Bool} {c0 c1 c2 c3 : Value} {x : DataW H × List MemPlace}
    (hf : DataW.trod enc Tryd.prog W base sp hd n 24 [c0, c1, c2, c3] = some x) : ∃ i0 : Int, ∃ i1 : Int, ∃ i2 : Int, ∃ i3 : Int, (c0 = .int .u64 i0 ∧ c1 = .int .u64 i1 ∧ c2 = .int .u64 i2 ∧ c3 = .int .u64 i3) ∧ ((0 ≤ i0 ∧ i0 ≤ 18446744073709551615) ∧ (0 ≤ i1 ∧ i1 ≤ 18446744073709551615) ∧ (0 ≤ i2 ∧ i2 ≤ 18446744073709551615) ∧ (0 ≤ i3 ∧ i3 ≤ 18446744073709551615)) := by
  have h_cof_uint64 : Tryd.prog.cellsOf 22 = 1 := by kernel_rfl
  obtain ⟨xs, n, _, hx, hl, hlen, hg⟩ := DataW.trod_array Tryd.underlying24 hf
  match xs, hlen, hg with
  | [y0, y1, y2, y3], _, hg =>
    have g0 : DataW.trod enc Tryd.prog W base sp hd n 22 (([c0, c1, c2, c3] : List Value).drop (0 * Tryd.prog.cellsOf 22) |>.take (Tryd.prog.cellsOf 22)) = some y0 := hg 0 (by decide)
    rw [h_cof_uint64] at g0
    have g1 : DataW.trod enc Tryd.prog W base sp hd n 22 (([c0, c1, c2, c3] : List Value).drop (1 * Tryd.prog.cellsOf 22) |>.take (Tryd.prog.cellsOf 22)) = some y1 := hg 1 (by decide)
    rw [h_cof_uint64] at g1
    have g2 : DataW.trod enc Tryd.prog W base sp hd n 22 (([c0, c1, c2, c3] : List Value).drop (2 * Tryd.prog.cellsOf 22) |>.take (Tryd.prog.cellsOf 22)) = some y2 := hg 2 (by decide)
    rw [h_cof_uint64] at g2
    have g3 : DataW.trod enc Tryd.prog W base sp hd n 22 (([c0, c1, c2, c3] : List Value).drop (3 * Tryd.prog.cellsOf 22) |>.take (Tryd.prog.cellsOf 22)) = some y3 := hg 3 (by decide)
    rw [h_cof_uint64] at g3
    obtain ⟨v0, rfl, b0⟩ := cof_uint64 (c0 := c0) g0
    obtain ⟨v1, rfl, b1⟩ := cof_uint64 (c0 := c1) g1
    obtain ⟨v2, rfl, b2⟩ := cof_uint64 (c0 := c2) g2
    obtain ⟨v3, rfl, b3⟩ := cof_uint64 (c0 := c3) g3
    exact ⟨v0, v1, v2, v3, ⟨rfl, rfl, rfl, rfl⟩, ⟨b0, b1, b2, b3⟩⟩

theorem open_nd {H : Type} {enc : TypeId × Value → H} {W : World} {base : Nat} {v : Value} {d : DataW H} {p : List MemPlace}
    (hval : Value.okWide Tryd.prog W .any base 24 v) (h : DataW.Trod enc Tryd.prog W 0 (fun _ => true) true 24 v d p) : ∃ s : NS, v = nsV s := by
  obtain ⟨cs, rfl, hsz, _⟩ : ∃ cs, v = .agg cs ∧ cs.size = Tryd.prog.cellsOf 24 ∧ Row.okWide Tryd.prog W .any base 24 cs := by
    simpa [Value.okWide, Tryd.underlying24] using hval
  rw [show Tryd.prog.cellsOf 24 = 4 by kernel_rfl] at hsz
  obtain ⟨l⟩ := cs
  obtain ⟨fuel, hf⟩ := h
  match l, hsz, hf with
  | [c0, c1, c2, c3], _, hf =>
    obtain ⟨v0, v1, v2, v3, ⟨rfl, rfl, rfl, rfl⟩, ⟨b0, b1, b2, b3⟩⟩ := cof_api_Nodes (c0 := c0) (c1 := c1) (c2 := c2) (c3 := c3) hf
    exact by
      obtain ⟨s, h0, h1, h2, h3⟩ := ns_of_words v0 v1 v2 v3 b0 b1 b2 b3
      exact ⟨s, by rw [h0, h1, h2, h3]⟩

theorem cof_bool {H : Type} {enc : TypeId × Value → H} {W : World} {base n : Nat} {sp : Nat → Bool} {hd : Bool} {c0 : Value} {x : DataW H × List MemPlace}
    (hf : DataW.trod enc Tryd.prog W base sp hd n 4 [c0] = some x) : ∃ i0 : Bool, (c0 = .bool i0) ∧ ((True)) := by
  obtain ⟨b, e0, rfl⟩ := DataW.trod_bool Tryd.underlying4 hf
  simp at e0
  subst e0
  exact ⟨b, rfl, trivial⟩

theorem cof_int {H : Type} {enc : TypeId × Value → H} {W : World} {base n : Nat} {sp : Nat → Bool} {hd : Bool} {c0 : Value} {x : DataW H × List MemPlace}
    (hf : DataW.trod enc Tryd.prog W base sp hd n 3 [c0] = some x) : ∃ i0 : Int, (c0 = .int .i64 i0) ∧ ((-9223372036854775808 ≤ i0 ∧ i0 ≤ 9223372036854775807)) := by
  obtain ⟨x0, e0, rfl, w0⟩ := DataW.trod_int Tryd.underlying3 hf
  simp at e0
  subst e0
  exact ⟨x0, rfl, bounds_i64 w0⟩

theorem cof_marlinspikelaw16_Act {H : Type} {enc : TypeId × Value → H} {W : World} {base n : Nat} {sp : Nat → Bool} {hd : Bool} {c0 c1 c2 c3 c4 c5 c6 : Value} {x : DataW H × List MemPlace}
    (hf : DataW.trod enc Tryd.prog W base sp hd n 27 [c0, c1, c2, c3, c4, c5, c6] = some x) : ∃ i0 : Bool, ∃ i1 : Int, ∃ i2 : Int, ∃ i3 : Int, ∃ i4 : Int, ∃ i5 : Int, ∃ i6 : Int, (c0 = .bool i0 ∧ c1 = .int .u64 i1 ∧ c2 = .int .u64 i2 ∧ c3 = .int .u64 i3 ∧ c4 = .int .u64 i4 ∧ c5 = .int .i64 i5 ∧ c6 = .int .i64 i6) ∧ ((True) ∧ (0 ≤ i1 ∧ i1 ≤ 18446744073709551615) ∧ (0 ≤ i2 ∧ i2 ≤ 18446744073709551615) ∧ (0 ≤ i3 ∧ i3 ≤ 18446744073709551615) ∧ (0 ≤ i4 ∧ i4 ≤ 18446744073709551615) ∧ (-9223372036854775808 ≤ i5 ∧ i5 ≤ 9223372036854775807) ∧ (-9223372036854775808 ≤ i6 ∧ i6 ≤ 9223372036854775807)) := by
  have h_cof_bool : Tryd.prog.cellsOf 4 = 1 := by kernel_rfl
  have h_cof_api_Nodes : Tryd.prog.cellsOf 24 = 4 := by kernel_rfl
  have h_cof_int : Tryd.prog.cellsOf 3 = 1 := by kernel_rfl
  obtain ⟨xs, n, _, hx, hl, hlen, hg⟩ := DataW.trod_struct Tryd.underlying27 hf
  match xs, hlen, hg with
  | [y0, y1, y2, y3], _, hg =>
    have g0 : DataW.trod enc Tryd.prog W base sp hd n 4 (([c0, c1, c2, c3, c4, c5, c6] : List Value).drop (0) |>.take (Tryd.prog.cellsOf 4)) = some y0 := hg 0 _ rfl
    rw [h_cof_bool] at g0
    have g1 : DataW.trod enc Tryd.prog W base sp hd n 24 (([c0, c1, c2, c3, c4, c5, c6] : List Value).drop (1) |>.take (Tryd.prog.cellsOf 24)) = some y1 := hg 1 _ rfl
    rw [h_cof_api_Nodes] at g1
    have g2 : DataW.trod enc Tryd.prog W base sp hd n 3 (([c0, c1, c2, c3, c4, c5, c6] : List Value).drop (5) |>.take (Tryd.prog.cellsOf 3)) = some y2 := hg 2 _ rfl
    rw [h_cof_int] at g2
    have g3 : DataW.trod enc Tryd.prog W base sp hd n 3 (([c0, c1, c2, c3, c4, c5, c6] : List Value).drop (6) |>.take (Tryd.prog.cellsOf 3)) = some y3 := hg 3 _ rfl
    rw [h_cof_int] at g3
    obtain ⟨v0, rfl, b0⟩ := cof_bool (c0 := c0) g0
    obtain ⟨v1, v2, v3, v4, ⟨rfl, rfl, rfl, rfl⟩, ⟨b1, b2, b3, b4⟩⟩ := cof_api_Nodes (c0 := c1) (c1 := c2) (c2 := c3) (c3 := c4) g1
    obtain ⟨v5, rfl, b5⟩ := cof_int (c0 := c5) g2
    obtain ⟨v6, rfl, b6⟩ := cof_int (c0 := c6) g3
    exact ⟨v0, v1, v2, v3, v4, v5, v6, ⟨rfl, rfl, rfl, rfl, rfl, rfl, rfl⟩, ⟨b0, b1, b2, b3, b4, b5, b6⟩⟩

theorem open_ak {H : Type} {enc : TypeId × Value → H} {W : World} {base : Nat} {v : Value} {d : DataW H} {p : List MemPlace}
    (hval : Value.okWide Tryd.prog W .any base 27 v) (h : DataW.Trod enc Tryd.prog W 0 (fun _ => true) true 27 v d p) : ∃ a : Ak, v = akV a ∧ (-9223372036854775808 ≤ a.lo ∧ a.lo ≤ 9223372036854775807) ∧ (-9223372036854775808 ≤ a.hi ∧ a.hi ≤ 9223372036854775807) := by
  obtain ⟨cs, rfl, hsz, _⟩ : ∃ cs, v = .agg cs ∧ cs.size = Tryd.prog.cellsOf 27 ∧ Row.okWide Tryd.prog W .any base 27 cs := by
    simpa [Value.okWide, Tryd.underlying27] using hval
  rw [show Tryd.prog.cellsOf 27 = 7 by kernel_rfl] at hsz
  obtain ⟨l⟩ := cs
  obtain ⟨fuel, hf⟩ := h
  match l, hsz, hf with
  | [c0, c1, c2, c3, c4, c5, c6], _, hf =>
    obtain ⟨v0, v1, v2, v3, v4, v5, v6, ⟨rfl, rfl, rfl, rfl, rfl, rfl, rfl⟩, ⟨b0, b1, b2, b3, b4, b5, b6⟩⟩ := cof_marlinspikelaw16_Act (c0 := c0) (c1 := c1) (c2 := c2) (c3 := c3) (c4 := c4) (c5 := c5) (c6 := c6) hf
    exact by
      obtain ⟨s, h0, h1, h2, h3⟩ := ns_of_words v1 v2 v3 v4 b1 b2 b3 b4
      exact ⟨⟨v0, s, v5, v6⟩, by rw [h0, h1, h2, h3], b5, b6⟩

theorem cof_marlinspikelaw16_Ask {H : Type} {enc : TypeId × Value → H} {W : World} {base n : Nat} {sp : Nat → Bool} {hd : Bool} {c0 c1 c2 c3 c4 c5 c6 : Value} {x : DataW H × List MemPlace}
    (hf : DataW.trod enc Tryd.prog W base sp hd n 29 [c0, c1, c2, c3, c4, c5, c6] = some x) : ∃ i0 : Int, ∃ i1 : Int, ∃ i2 : Int, ∃ i3 : Int, ∃ i4 : Int, ∃ i5 : Int, ∃ i6 : Int, (c0 = .int .i64 i0 ∧ c1 = .int .i64 i1 ∧ c2 = .int .i64 i2 ∧ c3 = .int .u64 i3 ∧ c4 = .int .u64 i4 ∧ c5 = .int .u64 i5 ∧ c6 = .int .u64 i6) ∧ ((-9223372036854775808 ≤ i0 ∧ i0 ≤ 9223372036854775807) ∧ (-9223372036854775808 ≤ i1 ∧ i1 ≤ 9223372036854775807) ∧ (-9223372036854775808 ≤ i2 ∧ i2 ≤ 9223372036854775807) ∧ (0 ≤ i3 ∧ i3 ≤ 18446744073709551615) ∧ (0 ≤ i4 ∧ i4 ≤ 18446744073709551615) ∧ (0 ≤ i5 ∧ i5 ≤ 18446744073709551615) ∧ (0 ≤ i6 ∧ i6 ≤ 18446744073709551615)) := by
  have h_cof_int : Tryd.prog.cellsOf 3 = 1 := by kernel_rfl
  have h_cof_api_Nodes : Tryd.prog.cellsOf 24 = 4 := by kernel_rfl
  obtain ⟨xs, n, _, hx, hl, hlen, hg⟩ := DataW.trod_struct Tryd.underlying29 hf
  match xs, hlen, hg with
  | [y0, y1, y2, y3], _, hg =>
    have g0 : DataW.trod enc Tryd.prog W base sp hd n 3 (([c0, c1, c2, c3, c4, c5, c6] : List Value).drop (0) |>.take (Tryd.prog.cellsOf 3)) = some y0 := hg 0 _ rfl
    rw [h_cof_int] at g0
    have g1 : DataW.trod enc Tryd.prog W base sp hd n 3 (([c0, c1, c2, c3, c4, c5, c6] : List Value).drop (1) |>.take (Tryd.prog.cellsOf 3)) = some y1 := hg 1 _ rfl
    rw [h_cof_int] at g1
    have g2 : DataW.trod enc Tryd.prog W base sp hd n 3 (([c0, c1, c2, c3, c4, c5, c6] : List Value).drop (2) |>.take (Tryd.prog.cellsOf 3)) = some y2 := hg 2 _ rfl
    rw [h_cof_int] at g2
    have g3 : DataW.trod enc Tryd.prog W base sp hd n 24 (([c0, c1, c2, c3, c4, c5, c6] : List Value).drop (3) |>.take (Tryd.prog.cellsOf 24)) = some y3 := hg 3 _ rfl
    rw [h_cof_api_Nodes] at g3
    obtain ⟨v0, rfl, b0⟩ := cof_int (c0 := c0) g0
    obtain ⟨v1, rfl, b1⟩ := cof_int (c0 := c1) g1
    obtain ⟨v2, rfl, b2⟩ := cof_int (c0 := c2) g2
    obtain ⟨v3, v4, v5, v6, ⟨rfl, rfl, rfl, rfl⟩, ⟨b3, b4, b5, b6⟩⟩ := cof_api_Nodes (c0 := c3) (c1 := c4) (c2 := c5) (c3 := c6) g3
    exact ⟨v0, v1, v2, v3, v4, v5, v6, ⟨rfl, rfl, rfl, rfl, rfl, rfl, rfl⟩, ⟨b0, b1, b2, b3, b4, b5, b6⟩⟩

theorem open_ask {H : Type} {enc : TypeId × Value → H} {W : World} {base : Nat} {v : Value} {d : DataW H} {p : List MemPlace}
    (hval : Value.okWide Tryd.prog W .any base 29 v) (h : DataW.Trod enc Tryd.prog W 0 (fun _ => true) true 29 v d p) : ∃ (n long lo : Int) (of : NS), v = askV n long lo of ∧ (-9223372036854775808 ≤ n ∧ n ≤ 9223372036854775807) ∧ (-9223372036854775808 ≤ long ∧ long ≤ 9223372036854775807) ∧ (-9223372036854775808 ≤ lo ∧ lo ≤ 9223372036854775807) := by
  obtain ⟨cs, rfl, hsz, _⟩ : ∃ cs, v = .agg cs ∧ cs.size = Tryd.prog.cellsOf 29 ∧ Row.okWide Tryd.prog W .any base 29 cs := by
    simpa [Value.okWide, Tryd.underlying29] using hval
  rw [show Tryd.prog.cellsOf 29 = 7 by kernel_rfl] at hsz
  obtain ⟨l⟩ := cs
  obtain ⟨fuel, hf⟩ := h
  match l, hsz, hf with
  | [c0, c1, c2, c3, c4, c5, c6], _, hf =>
    obtain ⟨v0, v1, v2, v3, v4, v5, v6, ⟨rfl, rfl, rfl, rfl, rfl, rfl, rfl⟩, ⟨b0, b1, b2, b3, b4, b5, b6⟩⟩ := cof_marlinspikelaw16_Ask (c0 := c0) (c1 := c1) (c2 := c2) (c3 := c3) (c4 := c4) (c5 := c5) (c6 := c6) hf
    exact by
      obtain ⟨s, h0, h1, h2, h3⟩ := ns_of_words v3 v4 v5 v6 b3 b4 b5 b6
      exact ⟨v0, v1, v2, s, by rw [h0, h1, h2, h3], b0, b1, b2⟩

theorem cof_marlinspikelaw16_Two {H : Type} {enc : TypeId × Value → H} {W : World} {base n : Nat} {sp : Nat → Bool} {hd : Bool} {c0 c1 c2 c3 c4 c5 c6 c7 c8 c9 c10 c11 c12 c13 : Value} {x : DataW H × List MemPlace}
    (hf : DataW.trod enc Tryd.prog W base sp hd n 31 [c0, c1, c2, c3, c4, c5, c6, c7, c8, c9, c10, c11, c12, c13] = some x) : ∃ i0 : Bool, ∃ i1 : Int, ∃ i2 : Int, ∃ i3 : Int, ∃ i4 : Int, ∃ i5 : Int, ∃ i6 : Int, ∃ i7 : Int, ∃ i8 : Int, ∃ i9 : Int, ∃ i10 : Int, ∃ i11 : Int, ∃ i12 : Int, ∃ i13 : Int, (c0 = .bool i0 ∧ c1 = .int .u64 i1 ∧ c2 = .int .u64 i2 ∧ c3 = .int .u64 i3 ∧ c4 = .int .u64 i4 ∧ c5 = .int .i64 i5 ∧ c6 = .int .i64 i6 ∧ c7 = .int .i64 i7 ∧ c8 = .int .i64 i8 ∧ c9 = .int .i64 i9 ∧ c10 = .int .u64 i10 ∧ c11 = .int .u64 i11 ∧ c12 = .int .u64 i12 ∧ c13 = .int .u64 i13) ∧ ((True) ∧ (0 ≤ i1 ∧ i1 ≤ 18446744073709551615) ∧ (0 ≤ i2 ∧ i2 ≤ 18446744073709551615) ∧ (0 ≤ i3 ∧ i3 ≤ 18446744073709551615) ∧ (0 ≤ i4 ∧ i4 ≤ 18446744073709551615) ∧ (-9223372036854775808 ≤ i5 ∧ i5 ≤ 9223372036854775807) ∧ (-9223372036854775808 ≤ i6 ∧ i6 ≤ 9223372036854775807) ∧ (-9223372036854775808 ≤ i7 ∧ i7 ≤ 9223372036854775807) ∧ (-9223372036854775808 ≤ i8 ∧ i8 ≤ 9223372036854775807) ∧ (-9223372036854775808 ≤ i9 ∧ i9 ≤ 9223372036854775807) ∧ (0 ≤ i10 ∧ i10 ≤ 18446744073709551615) ∧ (0 ≤ i11 ∧ i11 ≤ 18446744073709551615) ∧ (0 ≤ i12 ∧ i12 ≤ 18446744073709551615) ∧ (0 ≤ i13 ∧ i13 ≤ 18446744073709551615)) := by
  have h_cof_marlinspikelaw16_Act : Tryd.prog.cellsOf 27 = 7 := by kernel_rfl
  have h_cof_marlinspikelaw16_Ask : Tryd.prog.cellsOf 29 = 7 := by kernel_rfl
  obtain ⟨xs, n, _, hx, hl, hlen, hg⟩ := DataW.trod_struct Tryd.underlying31 hf
  match xs, hlen, hg with
  | [y0, y1], _, hg =>
    have g0 : DataW.trod enc Tryd.prog W base sp hd n 27 (([c0, c1, c2, c3, c4, c5, c6, c7, c8, c9, c10, c11, c12, c13] : List Value).drop (0) |>.take (Tryd.prog.cellsOf 27)) = some y0 := hg 0 _ rfl
    rw [h_cof_marlinspikelaw16_Act] at g0
    have g1 : DataW.trod enc Tryd.prog W base sp hd n 29 (([c0, c1, c2, c3, c4, c5, c6, c7, c8, c9, c10, c11, c12, c13] : List Value).drop (7) |>.take (Tryd.prog.cellsOf 29)) = some y1 := hg 1 _ rfl
    rw [h_cof_marlinspikelaw16_Ask] at g1
    obtain ⟨v0, v1, v2, v3, v4, v5, v6, ⟨rfl, rfl, rfl, rfl, rfl, rfl, rfl⟩, ⟨b0, b1, b2, b3, b4, b5, b6⟩⟩ := cof_marlinspikelaw16_Act (c0 := c0) (c1 := c1) (c2 := c2) (c3 := c3) (c4 := c4) (c5 := c5) (c6 := c6) g0
    obtain ⟨v7, v8, v9, v10, v11, v12, v13, ⟨rfl, rfl, rfl, rfl, rfl, rfl, rfl⟩, ⟨b7, b8, b9, b10, b11, b12, b13⟩⟩ := cof_marlinspikelaw16_Ask (c0 := c7) (c1 := c8) (c2 := c9) (c3 := c10) (c4 := c11) (c5 := c12) (c6 := c13) g1
    exact ⟨v0, v1, v2, v3, v4, v5, v6, v7, v8, v9, v10, v11, v12, v13, ⟨rfl, rfl, rfl, rfl, rfl, rfl, rfl, rfl, rfl, rfl, rfl, rfl, rfl, rfl⟩, ⟨b0, b1, b2, b3, b4, b5, b6, b7, b8, b9, b10, b11, b12, b13⟩⟩

theorem open_two {H : Type} {enc : TypeId × Value → H} {W : World} {base : Nat} {v : Value} {d : DataW H} {p : List MemPlace}
    (hval : Value.okWide Tryd.prog W .any base 31 v) (h : DataW.Trod enc Tryd.prog W 0 (fun _ => true) true 31 v d p) : ∃ (a : Ak) (n long lo : Int) (of : NS), v = .agg #[.bool a.give, .int .u64 (wn a.s 0 : Nat), .int .u64 (wn a.s 1 : Nat), .int .u64 (wn a.s 2 : Nat), .int .u64 (wn a.s 3 : Nat), .int .i64 a.lo, .int .i64 a.hi, .int .i64 n, .int .i64 long, .int .i64 lo, .int .u64 (wn of 0 : Nat), .int .u64 (wn of 1 : Nat), .int .u64 (wn of 2 : Nat), .int .u64 (wn of 3 : Nat)] ∧ (-9223372036854775808 ≤ a.lo ∧ a.lo ≤ 9223372036854775807) ∧ (-9223372036854775808 ≤ a.hi ∧ a.hi ≤ 9223372036854775807) ∧ (-9223372036854775808 ≤ n ∧ n ≤ 9223372036854775807) ∧ (-9223372036854775808 ≤ long ∧ long ≤ 9223372036854775807) ∧ (-9223372036854775808 ≤ lo ∧ lo ≤ 9223372036854775807) := by
  obtain ⟨cs, rfl, hsz, _⟩ : ∃ cs, v = .agg cs ∧ cs.size = Tryd.prog.cellsOf 31 ∧ Row.okWide Tryd.prog W .any base 31 cs := by
    simpa [Value.okWide, Tryd.underlying31] using hval
  rw [show Tryd.prog.cellsOf 31 = 14 by kernel_rfl] at hsz
  obtain ⟨l⟩ := cs
  obtain ⟨fuel, hf⟩ := h
  match l, hsz, hf with
  | [c0, c1, c2, c3, c4, c5, c6, c7, c8, c9, c10, c11, c12, c13], _, hf =>
    obtain ⟨v0, v1, v2, v3, v4, v5, v6, v7, v8, v9, v10, v11, v12, v13, ⟨rfl, rfl, rfl, rfl, rfl, rfl, rfl, rfl, rfl, rfl, rfl, rfl, rfl, rfl⟩, ⟨b0, b1, b2, b3, b4, b5, b6, b7, b8, b9, b10, b11, b12, b13⟩⟩ := cof_marlinspikelaw16_Two (c0 := c0) (c1 := c1) (c2 := c2) (c3 := c3) (c4 := c4) (c5 := c5) (c6 := c6) (c7 := c7) (c8 := c8) (c9 := c9) (c10 := c10) (c11 := c11) (c12 := c12) (c13 := c13) hf
    exact by
      obtain ⟨s, h0, h1, h2, h3⟩ := ns_of_words v1 v2 v3 v4 b1 b2 b3 b4
      obtain ⟨s2, k0, k1, k2, k3⟩ := ns_of_words v10 v11 v12 v13 b10 b11 b12 b13
      exact ⟨⟨v0, s, v5, v6⟩, v7, v8, v9, s2, by rw [h0, h1, h2, h3, k0, k1, k2, k3], b5, b6, b7, b8, b9⟩

instance : Inhabited Ak := ⟨⟨false, emptyS, 0, 0⟩⟩
theorem open_aks {H : Type} {enc : TypeId × Value → H} {W : World} {base : Nat} {v : Value} {d : DataW H} {p : List MemPlace}
    (hval : Value.okWide Tryd.prog W .any base 25 v) (h : DataW.Trod enc Tryd.prog W 0 (fun _ => true) true 25 v d p) :
    ∃ A n c l, v = .slice A n c ∧ ReadsAk W A n c l := by
  have hA : Tryd.prog.cellsOf 27 = 7 := by kernel_rfl
  obtain ⟨a0, n, c, rfl⟩ := Go.WideShapes.okWide_slice Tryd.underlying25 hval
  obtain ⟨fuel, hf⟩ := h
  rcases open_slice Tryd.underlying25 hf with ⟨hcs, hx⟩ | ⟨a, len, cap, m, k, D, Pl, hcs, _, hle, hmax, hm, hx, hcell⟩
  · simp [Value.cells] at hcs
    obtain ⟨rfl, rfl, rfl⟩ := hcs
    exact ⟨none, 0, 0, [], rfl, rfl, by omega, by omega, fun h => absurd h (by omega)⟩
  · simp [Value.cells] at hcs
    obtain ⟨rfl, rfl, rfl⟩ := hcs
    simp only [if_true] at hm
    simp only [maxLen] at hmax
    rw [hA] at hcell
    obtain ⟨Z, hZ⟩ := choose_lt (α := Ak) (n := n) (p := fun i z => ∀ j v, (akL z)[j]? = some v → W.cell? ((a.add (i * 7)).add j) = some v) (fun i hi => by
      obtain ⟨cs', h1, h2⟩ := hcell i (by omega)
      obtain ⟨_, hlen, hat⟩ := World.cells?_some h1
      match cs', hlen, hat, h2 with
      | [c0, c1, c2, c3, c4, c5, c6], _, hat, h2 =>
        obtain ⟨v0, v1, v2, v3, v4, v5, v6, ⟨rfl, rfl, rfl, rfl, rfl, rfl, rfl⟩, ⟨b0, b1, b2, b3, b4, b5, b6⟩⟩ := cof_marlinspikelaw16_Act h2
        obtain ⟨s, h0, h1, h2, h3⟩ := ns_of_words v1 v2 v3 v4 b1 b2 b3 b4
        refine ⟨⟨v0, s, v5, v6⟩, fun j v hj => ?_⟩
        have hj7 : j < 7 := by
          by_cases h3 : j < 7
          · exact h3
          · rw [List.getElem?_eq_none (by show 7 ≤ j; omega)] at hj; cases hj
        rw [hat j hj7]
        rw [h0, h1, h2, h3]
        exact hj)
    simp only [Prod.mk.injEq] at hx
    refine ⟨some a, n, c, (List.range n).map Z, rfl, by simp, hle, by omega, fun _ => ⟨a, rfl, fun i x hx j v hj => ?_⟩⟩
    have hi : i < n := by
      rcases Nat.lt_or_ge i n with h1 | h1
      · exact h1
      · rw [List.getElem?_eq_none (by simpa using h1)] at hx; cases hx
    have e : x = Z i := by simp [hi] at hx; exact hx.symm
    subst e
    exact hZ i hi j v hj
end Go.Proofs.YtkgdcicaokekfaaDoor
