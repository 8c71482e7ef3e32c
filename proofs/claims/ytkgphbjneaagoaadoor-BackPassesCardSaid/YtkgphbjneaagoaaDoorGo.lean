/- Back: the arguments of the laws. Printed by gen_gos.py. -/
import Derived.Test.YtkgphbjneaagoaaDoorLw
import Derived.Test.YtkgphbjneaagoaaDoorGa
import Derived.Deep.Slices
set_option linter.unusedVariables false
set_option maxRecDepth 100000
namespace Go.Proofs.YtkgphbjneaagoaaDoor
open Go.ChangeShapes Go.WideShapes Go.ChangeAt Go.RowKit Go.Deep

theorem bounds_i64 {x : Int} (h : (Lit.int .i64 x).wf = true) : -9223372036854775808 ≤ x ∧ x ≤ 9223372036854775807 := by simpa [Lit.wf, IntKind.min, IntKind.max, IntKind.signed, IntKind.bits] using h
theorem bounds_u64 {x : Int} (h : (Lit.int .u64 x).wf = true) : 0 ≤ x ∧ x ≤ 18446744073709551615 := by simpa [Lit.wf, IntKind.min, IntKind.max, IntKind.signed, IntKind.bits] using h
theorem bounds_u8 {x : Int} (h : (Lit.int .u8 x).wf = true) : 0 ≤ x ∧ x ≤ 255 := by simpa [Lit.wf, IntKind.min, IntKind.max, IntKind.signed, IntKind.bits] using h
theorem cof_int {H : Type} {enc : TypeId × Value → H} {W : World} {base n : Nat} {sp : Nat → Bool} {hd : Bool} {c0 : Value} {x : DataW H × List MemPlace}
    (hf : DataW.trod enc Tryd.prog W base sp hd n 3 [c0] = some x) : ∃ i0 : Int, (c0 = .int .i64 i0) ∧ ((-9223372036854775808 ≤ i0 ∧ i0 ≤ 9223372036854775807)) := by
  obtain ⟨x0, e0, rfl, w0⟩ := DataW.trod_int Tryd.underlying3 hf
  simp at e0
  subst e0
  exact ⟨x0, rfl, bounds_i64 w0⟩

theorem cof_uint64 {H : Type} {enc : TypeId × Value → H} {W : World} {base n : Nat} {sp : Nat → Bool} {hd : Bool} {c0 : Value} {x : DataW H × List MemPlace}
    (hf : DataW.trod enc Tryd.prog W base sp hd n 22 [c0] = some x) : ∃ i0 : Int, (c0 = .int .u64 i0) ∧ ((0 ≤ i0 ∧ i0 ≤ 18446744073709551615)) := by
  obtain ⟨x0, e0, rfl, w0⟩ := DataW.trod_int Tryd.underlying22 hf
  simp at e0
  subst e0
  exact ⟨x0, rfl, bounds_u64 w0⟩

theorem cof_api_Nodes {H : Type} {enc : TypeId × Value → H} {W : World} {base n : Nat} {sp : Nat → Bool} {hd : Bool} {c0 c1 c2 c3 : Value} {x : DataW H × List MemPlace}
    (hf : DataW.trod enc Tryd.prog W base sp hd n 24 [c0, c1, c2, c3] = some x) : ∃ i0 : Int, ∃ i1 : Int, ∃ i2 : Int, ∃ i3 : Int, (c0 = .int .u64 i0 ∧ c1 = .int .u64 i1 ∧ c2 = .int .u64 i2 ∧ c3 = .int .u64 i3) ∧ ((0 ≤ i0 ∧ i0 ≤ 18446744073709551615) ∧ (0 ≤ i1 ∧ i1 ≤ 18446744073709551615) ∧ (0 ≤ i2 ∧ i2 ≤ 18446744073709551615) ∧ (0 ≤ i3 ∧ i3 ≤ 18446744073709551615)) := by
  have h_cof_uint64 : Tryd.prog.cellsOf 22 = 1 := by kernel_rfl
  obtain ⟨xs, n, _, hx, hl, hlen, hg⟩ := DataW.trod_array Tryd.underlying24 hf
  match xs, hlen, hg with
  | [y0, y1, y2, y3], _, hg =>
    have g0 : DataW.trod enc Tryd.prog W base sp hd n 22 (([c0, c1, c2, c3] : List Value).drop (0 * Tryd.prog.cellsOf 22) |>.take (Tryd.prog.cellsOf 22)) = some y0 := hg 0 (by decide)
    rw [h_cof_uint64] at g0
    have g1 : DataW.trod enc Tryd.prog W base sp hd n 22 (([c0, c1, c2, c3] : List Value).drop (1 * Tryd.prog.cellsOf 22) |>.take (Tryd.prog.cellsOf 22)) = some y1 := hg 1 (by decide)
    rw [h_cof_uint64] at g1
    have g2 : DataW.trod enc Tryd.prog W base sp hd n 22 (([c0, c1, c2, c3] : List Value).drop (2 * Tryd.prog.cellsOf 22) |>.take (Tryd.prog.cellsOf 22)) = some y2 := hg 2 (by decide)
    rw [h_cof_uint64] at g2
    have g3 : DataW.trod enc Tryd.prog W base sp hd n 22 (([c0, c1, c2, c3] : List Value).drop (3 * Tryd.prog.cellsOf 22) |>.take (Tryd.prog.cellsOf 22)) = some y3 := hg 3 (by decide)
    rw [h_cof_uint64] at g3
    obtain ⟨v0, rfl, b0⟩ := cof_uint64 (c0 := c0) g0
    obtain ⟨v1, rfl, b1⟩ := cof_uint64 (c0 := c1) g1
    obtain ⟨v2, rfl, b2⟩ := cof_uint64 (c0 := c2) g2
    obtain ⟨v3, rfl, b3⟩ := cof_uint64 (c0 := c3) g3
    exact ⟨v0, v1, v2, v3, ⟨rfl, rfl, rfl, rfl⟩, ⟨b0, b1, b2, b3⟩⟩

theorem cof_marlinspikeref18_Run {H : Type} {enc : TypeId × Value → H} {W : World} {base n : Nat} {sp : Nat → Bool} {hd : Bool} {c0 c1 c2 c3 c4 : Value} {x : DataW H × List MemPlace}
    (hf : DataW.trod enc Tryd.prog W base sp hd n 55 [c0, c1, c2, c3, c4] = some x) : ∃ i0 : Int, ∃ i1 : Int, ∃ i2 : Int, ∃ i3 : Int, ∃ i4 : Int, (c0 = .int .u64 i0 ∧ c1 = .int .u64 i1 ∧ c2 = .int .u64 i2 ∧ c3 = .int .u64 i3 ∧ c4 = .int .i64 i4) ∧ ((0 ≤ i0 ∧ i0 ≤ 18446744073709551615) ∧ (0 ≤ i1 ∧ i1 ≤ 18446744073709551615) ∧ (0 ≤ i2 ∧ i2 ≤ 18446744073709551615) ∧ (0 ≤ i3 ∧ i3 ≤ 18446744073709551615) ∧ (-9223372036854775808 ≤ i4 ∧ i4 ≤ 9223372036854775807)) := by
  have h_cof_api_Nodes : Tryd.prog.cellsOf 24 = 4 := by kernel_rfl
  have h_cof_int : Tryd.prog.cellsOf 3 = 1 := by kernel_rfl
  obtain ⟨xs, n, _, hx, hl, hlen, hg⟩ := DataW.trod_struct Tryd.underlying55 hf
  match xs, hlen, hg with
  | [y0, y1], _, hg =>
    have g0 : DataW.trod enc Tryd.prog W base sp hd n 24 (([c0, c1, c2, c3, c4] : List Value).drop (0) |>.take (Tryd.prog.cellsOf 24)) = some y0 := hg 0 _ rfl
    rw [h_cof_api_Nodes] at g0
    have g1 : DataW.trod enc Tryd.prog W base sp hd n 3 (([c0, c1, c2, c3, c4] : List Value).drop (4) |>.take (Tryd.prog.cellsOf 3)) = some y1 := hg 1 _ rfl
    rw [h_cof_int] at g1
    obtain ⟨v0, v1, v2, v3, ⟨rfl, rfl, rfl, rfl⟩, ⟨b0, b1, b2, b3⟩⟩ := cof_api_Nodes (c0 := c0) (c1 := c1) (c2 := c2) (c3 := c3) g0
    obtain ⟨v4, rfl, b4⟩ := cof_int (c0 := c4) g1
    exact ⟨v0, v1, v2, v3, v4, ⟨rfl, rfl, rfl, rfl, rfl⟩, ⟨b0, b1, b2, b3, b4⟩⟩

theorem cof_marlinspikeref18_Wish {H : Type} {enc : TypeId × Value → H} {W : World} {base n : Nat} {sp : Nat → Bool} {hd : Bool} {c0 c1 c2 c3 c4 c5 c6 : Value} {x : DataW H × List MemPlace}
    (hf : DataW.trod enc Tryd.prog W base sp hd n 49 [c0, c1, c2, c3, c4, c5, c6] = some x) : ∃ i0 : Int, ∃ i1 : Int, ∃ i2 : Int, ∃ i3 : Int, ∃ i4 : Int, ∃ i5 : Int, ∃ i6 : Int, (c0 = .int .i64 i0 ∧ c1 = .int .i64 i1 ∧ c2 = .int .i64 i2 ∧ c3 = .int .u64 i3 ∧ c4 = .int .u64 i4 ∧ c5 = .int .u64 i5 ∧ c6 = .int .u64 i6) ∧ ((-9223372036854775808 ≤ i0 ∧ i0 ≤ 9223372036854775807) ∧ (-9223372036854775808 ≤ i1 ∧ i1 ≤ 9223372036854775807) ∧ (-9223372036854775808 ≤ i2 ∧ i2 ≤ 9223372036854775807) ∧ (0 ≤ i3 ∧ i3 ≤ 18446744073709551615) ∧ (0 ≤ i4 ∧ i4 ≤ 18446744073709551615) ∧ (0 ≤ i5 ∧ i5 ≤ 18446744073709551615) ∧ (0 ≤ i6 ∧ i6 ≤ 18446744073709551615)) := by
  have h_cof_int : Tryd.prog.cellsOf 3 = 1 := by kernel_rfl
  have h_cof_api_Nodes : Tryd.prog.cellsOf 24 = 4 := by kernel_rfl
  obtain ⟨xs, n, _, hx, hl, hlen, hg⟩ := DataW.trod_struct Tryd.underlying49 hf
  match xs, hlen, hg with
  | [y0, y1, y2, y3], _, hg =>
    have g0 : DataW.trod enc Tryd.prog W base sp hd n 3 (([c0, c1, c2, c3, c4, c5, c6] : List Value).drop (0) |>.take (Tryd.prog.cellsOf 3)) = some y0 := hg 0 _ rfl
    rw [h_cof_int] at g0
    have g1 : DataW.trod enc Tryd.prog W base sp hd n 3 (([c0, c1, c2, c3, c4, c5, c6] : List Value).drop (1) |>.take (Tryd.prog.cellsOf 3)) = some y1 := hg 1 _ rfl
    rw [h_cof_int] at g1
    have g2 : DataW.trod enc Tryd.prog W base sp hd n 3 (([c0, c1, c2, c3, c4, c5, c6] : List Value).drop (2) |>.take (Tryd.prog.cellsOf 3)) = some y2 := hg 2 _ rfl
    rw [h_cof_int] at g2
    have g3 : DataW.trod enc Tryd.prog W base sp hd n 24 (([c0, c1, c2, c3, c4, c5, c6] : List Value).drop (3) |>.take (Tryd.prog.cellsOf 24)) = some y3 := hg 3 _ rfl
    rw [h_cof_api_Nodes] at g3
    obtain ⟨v0, rfl, b0⟩ := cof_int (c0 := c0) g0
    obtain ⟨v1, rfl, b1⟩ := cof_int (c0 := c1) g1
    obtain ⟨v2, rfl, b2⟩ := cof_int (c0 := c2) g2
    obtain ⟨v3, v4, v5, v6, ⟨rfl, rfl, rfl, rfl⟩, ⟨b3, b4, b5, b6⟩⟩ := cof_api_Nodes (c0 := c3) (c1 := c4) (c2 := c5) (c3 := c6) g3
    exact ⟨v0, v1, v2, v3, v4, v5, v6, ⟨rfl, rfl, rfl, rfl, rfl, rfl, rfl⟩, ⟨b0, b1, b2, b3, b4, b5, b6⟩⟩

theorem cof_uint8 {H : Type} {enc : TypeId × Value → H} {W : World} {base n : Nat} {sp : Nat → Bool} {hd : Bool} {c0 : Value} {x : DataW H × List MemPlace}
    (hf : DataW.trod enc Tryd.prog W base sp hd n 5 [c0] = some x) : ∃ i0 : Int, (c0 = .int .u8 i0) ∧ ((0 ≤ i0 ∧ i0 ≤ 255)) := by
  obtain ⟨x0, e0, rfl, w0⟩ := DataW.trod_int Tryd.underlying5 hf
  simp at e0
  subst e0
  exact ⟨x0, rfl, bounds_u8 w0⟩

theorem cof_bool {H : Type} {enc : TypeId × Value → H} {W : World} {base n : Nat} {sp : Nat → Bool} {hd : Bool} {c0 : Value} {x : DataW H × List MemPlace}
    (hf : DataW.trod enc Tryd.prog W base sp hd n 4 [c0] = some x) : ∃ i0 : Bool, (c0 = .bool i0) ∧ ((True)) := by
  obtain ⟨b, e0, rfl⟩ := DataW.trod_bool Tryd.underlying4 hf
  simp at e0
  subst e0
  exact ⟨b, rfl, trivial⟩

instance : Inhabited Ru := ⟨⟨emptyS, 0⟩⟩
theorem open_rus {H : Type} {enc : TypeId × Value → H} {W : World} {c0 : Value} {fuel : Nat} {x : DataW H × List MemPlace}
    (h : DataW.trod enc Tryd.prog W 0 (fun _ => true) true fuel 25 [c0] = some x) :
    ∃ A n c l, c0 = .slice A n c ∧ RdS 5 ruL W A n l ∧ (n ≤ c ∧ c ≤ 9223372036854775807) ∧ ∀ y ∈ l, True := by
  have hA : Tryd.prog.cellsOf 55 = 5 := by kernel_rfl
  rcases open_slice Tryd.underlying25 h with ⟨hcs, hx⟩ | ⟨a, len, cap, m, k, D, Pl, hcs, _, hle, hmax, hm, hx, hcell⟩
  · simp at hcs
    subst hcs
    exact ⟨none, 0, 0, [], rfl, RdS.nil _, ⟨by omega, by omega⟩, fun y hy => by cases hy⟩
  · simp at hcs
    subst hcs
    simp only [if_true] at hm
    simp only [maxLen] at hmax
    rw [hA] at hcell
    obtain ⟨Z, hZ⟩ := choose_lt (α := Ru) (n := len) (p := fun i y => (∀ j v, (ruL y)[j]? = some v → W.cell? ((a.add (i * 5)).add j) = some v) ∧ True) (fun i hi => by
      obtain ⟨cs', h1, h2⟩ := hcell i (by omega)
      obtain ⟨_, hlen, hat⟩ := World.cells?_some h1
      match cs', hlen, hat, h2 with
      | [c0, c1, c2, c3, c4], _, hat, h2 =>
        obtain ⟨v0, v1, v2, v3, v4, ⟨rfl, rfl, rfl, rfl, rfl⟩, ⟨b0, b1, b2, b3, b4⟩⟩ := cof_marlinspikeref18_Run h2
        obtain ⟨s, h0, h1, h2, h3⟩ := ns_of_words v0 v1 v2 v3 b0 b1 b2 b3
        obtain ⟨z, hz, he⟩ : ∃ z : Ru, True ∧ [.int .u64 v0, .int .u64 v1, .int .u64 v2, .int .u64 v3, .int .i64 v4] = ruL z := ⟨⟨s, v4⟩, trivial, by rw [h0, h1, h2, h3]⟩
        refine ⟨z, fun j v hj => ?_, hz⟩
        have hj7 : j < 5 := by
          by_cases h3 : j < 5
          · exact h3
          · rw [List.getElem?_eq_none (by show 5 ≤ j; omega)] at hj; cases hj
        rw [hat j hj7, he]
        exact hj)
    refine ⟨some a, len, cap, (List.range len).map Z, rfl, ⟨by simp, by omega, fun _ => ⟨a, rfl, fun i y hy j v hj => ?_⟩⟩, ⟨hle, by omega⟩, fun y hy => ?_⟩
    · have hi : i < len := by
        rcases Nat.lt_or_ge i len with h1 | h1
        · exact h1
        · rw [List.getElem?_eq_none (by simpa using h1)] at hy; cases hy
      have e : y = Z i := by simp [hi] at hy; exact hy.symm
      subst e
      exact (hZ i hi).1 j v hj
    · obtain ⟨i, hi, rfl⟩ := List.mem_map.1 hy
      exact (hZ i (by simpa using hi)).2

instance : Inhabited Wi := ⟨⟨0, 0, 0, emptyS⟩⟩
theorem open_wis {H : Type} {enc : TypeId × Value → H} {W : World} {c0 : Value} {fuel : Nat} {x : DataW H × List MemPlace}
    (h : DataW.trod enc Tryd.prog W 0 (fun _ => true) true fuel 26 [c0] = some x) :
    ∃ A n c l, c0 = .slice A n c ∧ RdS 7 wiL W A n l ∧ (n ≤ c ∧ c ≤ 9223372036854775807) ∧ ∀ y ∈ l, (-9223372036854775808 ≤ y.id ∧ y.id ≤ 9223372036854775807) := by
  have hA : Tryd.prog.cellsOf 49 = 7 := by kernel_rfl
  rcases open_slice Tryd.underlying26 h with ⟨hcs, hx⟩ | ⟨a, len, cap, m, k, D, Pl, hcs, _, hle, hmax, hm, hx, hcell⟩
  · simp at hcs
    subst hcs
    exact ⟨none, 0, 0, [], rfl, RdS.nil _, ⟨by omega, by omega⟩, fun y hy => by cases hy⟩
  · simp at hcs
    subst hcs
    simp only [if_true] at hm
    simp only [maxLen] at hmax
    rw [hA] at hcell
    obtain ⟨Z, hZ⟩ := choose_lt (α := Wi) (n := len) (p := fun i y => (∀ j v, (wiL y)[j]? = some v → W.cell? ((a.add (i * 7)).add j) = some v) ∧ (-9223372036854775808 ≤ y.id ∧ y.id ≤ 9223372036854775807)) (fun i hi => by
      obtain ⟨cs', h1, h2⟩ := hcell i (by omega)
      obtain ⟨_, hlen, hat⟩ := World.cells?_some h1
      match cs', hlen, hat, h2 with
      | [c0, c1, c2, c3, c4, c5, c6], _, hat, h2 =>
        obtain ⟨v0, v1, v2, v3, v4, v5, v6, ⟨rfl, rfl, rfl, rfl, rfl, rfl, rfl⟩, ⟨b0, b1, b2, b3, b4, b5, b6⟩⟩ := cof_marlinspikeref18_Wish h2
        obtain ⟨s, h0, h1, h2, h3⟩ := ns_of_words v3 v4 v5 v6 b3 b4 b5 b6
        obtain ⟨z, hz, he⟩ : ∃ z : Wi, (-9223372036854775808 ≤ z.id ∧ z.id ≤ 9223372036854775807) ∧ [.int .i64 v0, .int .i64 v1, .int .i64 v2, .int .u64 v3, .int .u64 v4, .int .u64 v5, .int .u64 v6] = wiL z := ⟨⟨v0, v1, v2, s⟩, b0, by rw [h0, h1, h2, h3]⟩
        refine ⟨z, fun j v hj => ?_, hz⟩
        have hj7 : j < 7 := by
          by_cases h3 : j < 7
          · exact h3
          · rw [List.getElem?_eq_none (by show 7 ≤ j; omega)] at hj; cases hj
        rw [hat j hj7, he]
        exact hj)
    refine ⟨some a, len, cap, (List.range len).map Z, rfl, ⟨by simp, by omega, fun _ => ⟨a, rfl, fun i y hy j v hj => ?_⟩⟩, ⟨hle, by omega⟩, fun y hy => ?_⟩
    · have hi : i < len := by
        rcases Nat.lt_or_ge i len with h1 | h1
        · exact h1
        · rw [List.getElem?_eq_none (by simpa using h1)] at hy; cases hy
      have e : y = Z i := by simp [hi] at hy; exact hy.symm
      subst e
      exact (hZ i hi).1 j v hj
    · obtain ⟨i, hi, rfl⟩ := List.mem_map.1 hy
      exact (hZ i (by simpa using hi)).2

theorem open_scene {H : Type} {enc : TypeId × Value → H} {W : World} {base : Nat} {v : Value} {d : DataW H} {p : List MemPlace}
    (hval : Value.okWide Tryd.prog W .any base 28 v) (h : DataW.Trod enc Tryd.prog W 0 (fun _ => true) true 28 v d p) :
    ∃ now up A n c rs B m e ws, v = scV now up A n c B m e ∧ RdR W A n rs ∧ RdW W B m ws ∧ (∀ x ∈ ws, -9223372036854775808 ≤ x.id ∧ x.id ≤ 9223372036854775807) ∧ (m ≤ e ∧ e ≤ 9223372036854775807) := by
  obtain ⟨cs, rfl, hsz, _⟩ : ∃ cs, v = .agg cs ∧ cs.size = Tryd.prog.cellsOf 28 ∧ Row.okWide Tryd.prog W .any base 28 cs := by
    simpa [Value.okWide, Tryd.underlying28] using hval
  rw [show Tryd.prog.cellsOf 28 = 7 by kernel_rfl] at hsz
  have h_int : Tryd.prog.cellsOf 3 = 1 := by kernel_rfl
  have h_ns : Tryd.prog.cellsOf 24 = 4 := by kernel_rfl
  have h_ru : Tryd.prog.cellsOf 25 = 1 := by kernel_rfl
  have h_wi : Tryd.prog.cellsOf 26 = 1 := by kernel_rfl
  obtain ⟨l⟩ := cs
  obtain ⟨fuel, hf⟩ := h
  match l, hsz, hf with
  | [c0, c1, c2, c3, c4, c5, c6], _, hf =>
    obtain ⟨xs, n, _, hx, hl, hlen, hg⟩ := DataW.trod_struct Tryd.underlying28 hf
    match xs, hlen, hg with
    | [y0, y1, y2, y3], _, hg =>
      have g0 : DataW.trod enc Tryd.prog W 0 (fun _ => true) true n 3 (([c0, c1, c2, c3, c4, c5, c6] : List Value).drop (0) |>.take (Tryd.prog.cellsOf 3)) = some y0 := hg 0 _ rfl
      rw [h_int] at g0
      have g1 : DataW.trod enc Tryd.prog W 0 (fun _ => true) true n 24 (([c0, c1, c2, c3, c4, c5, c6] : List Value).drop (1) |>.take (Tryd.prog.cellsOf 24)) = some y1 := hg 1 _ rfl
      rw [h_ns] at g1
      have g2 : DataW.trod enc Tryd.prog W 0 (fun _ => true) true n 25 (([c0, c1, c2, c3, c4, c5, c6] : List Value).drop (5) |>.take (Tryd.prog.cellsOf 25)) = some y2 := hg 2 _ rfl
      rw [h_ru] at g2
      have g3 : DataW.trod enc Tryd.prog W 0 (fun _ => true) true n 26 (([c0, c1, c2, c3, c4, c5, c6] : List Value).drop (6) |>.take (Tryd.prog.cellsOf 26)) = some y3 := hg 3 _ rfl
      rw [h_wi] at g3
      obtain ⟨now, rfl, b0⟩ := cof_int (c0 := c0) g0
      obtain ⟨v1, v2, v3, v4, ⟨rfl, rfl, rfl, rfl⟩, ⟨b1, b2, b3, b4⟩⟩ := cof_api_Nodes (c0 := c1) (c1 := c2) (c2 := c3) (c3 := c4) g1
      obtain ⟨A, nn, c, rs, rfl, hR, _, _⟩ := open_rus (c0 := c5) g2
      obtain ⟨B, m, e, ws, rfl, hW, hc, hi⟩ := open_wis (c0 := c6) g3
      obtain ⟨s, h0, h1, h2, h3⟩ := ns_of_words v1 v2 v3 v4 b1 b2 b3 b4
      exact ⟨now, s, A, nn, c, rs, B, m, e, ws, by rw [h0, h1, h2, h3], hR, hW, hi, hc⟩
end Go.Proofs.YtkgphbjneaagoaaDoor
