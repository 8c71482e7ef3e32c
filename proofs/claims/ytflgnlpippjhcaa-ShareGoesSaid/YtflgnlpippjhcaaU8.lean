/- Share: the arguments of the laws. Printed by gen_u8.py. -/
import Derived.Test.YtflgnlpippjhcaaLw
import Derived.Test.YtflgnlpippjhcaaRs
import Derived.Test.YtflgnlpippjhcaaUb
import Derived.Deep.Slices
set_option linter.unusedVariables false
set_option maxRecDepth 100000
namespace Go.Proofs.Ytflgnlpippjhcaa
open Go.ChangeShapes Go.WideShapes Go.ChangeAt Go.RowKit Go.Deep

theorem bounds_i64 {x : Int} (h : (Lit.int .i64 x).wf = true) : -9223372036854775808 ≤ x ∧ x ≤ 9223372036854775807 := by simpa [Lit.wf, IntKind.min, IntKind.max, IntKind.signed, IntKind.bits] using h
/-- An act of a script. -/
structure Ak where
  n : Nm
  am : Int
  now : Int
abbrev akL (a : Ak) : List Value := [str a.n, .int .i64 a.am, .int .i64 a.now]
abbrev akA (a : Ak) : Array Value := #[str a.n, .int .i64 a.am, .int .i64 a.now]
abbrev akV (a : Ak) : Value := .agg (akA a)
def AkOk (a : Ak) : Prop := a.n.length ≤ maxLen ∧ (-9223372036854775808 ≤ a.am ∧ a.am ≤ 9223372036854775807) ∧ (-9223372036854775808 ≤ a.now ∧ a.now ≤ 9223372036854775807)
theorem cof_string {H : Type} {enc : TypeId × Value → H} {W : World} {base n : Nat} {sp : Nat → Bool} {hd : Bool} {c0 : Value} {x : DataW H × List MemPlace}
    (hf : DataW.trod enc Try.prog W base sp hd n 9 [c0] = some x) : ∃ i0 : Nm, (c0 = str i0) ∧ (i0.length ≤ maxLen) := by
  obtain ⟨s, e0, hx, hs⟩ := DataW.trod_string Try.underlying9 hf
  simp at e0
  subst e0
  exact ⟨s.data.toList, by show _ = Value.string ⟨s.data.toList.toArray⟩; rw [Array.toArray_toList], hs⟩

theorem cof_int {H : Type} {enc : TypeId × Value → H} {W : World} {base n : Nat} {sp : Nat → Bool} {hd : Bool} {c0 : Value} {x : DataW H × List MemPlace}
    (hf : DataW.trod enc Try.prog W base sp hd n 3 [c0] = some x) : ∃ i0 : Int, (c0 = .int .i64 i0) ∧ ((-9223372036854775808 ≤ i0 ∧ i0 ≤ 9223372036854775807)) := by
  obtain ⟨x0, e0, rfl, w0⟩ := DataW.trod_int Try.underlying3 hf
  simp at e0
  subst e0
  exact ⟨x0, rfl, bounds_i64 w0⟩

theorem cof_marlinspikelaw14_Act {H : Type} {enc : TypeId × Value → H} {W : World} {base n : Nat} {sp : Nat → Bool} {hd : Bool} {c0 c1 c2 : Value} {x : DataW H × List MemPlace}
    (hf : DataW.trod enc Try.prog W base sp hd n 24 [c0, c1, c2] = some x) : ∃ i0 : Nm, ∃ i1 : Int, ∃ i2 : Int, (c0 = str i0 ∧ c1 = .int .i64 i1 ∧ c2 = .int .i64 i2) ∧ ((i0.length ≤ maxLen) ∧ (-9223372036854775808 ≤ i1 ∧ i1 ≤ 9223372036854775807) ∧ (-9223372036854775808 ≤ i2 ∧ i2 ≤ 9223372036854775807)) := by
  have h_cof_string : Try.prog.cellsOf 9 = 1 := by kernel_rfl
  have h_cof_int : Try.prog.cellsOf 3 = 1 := by kernel_rfl
  obtain ⟨xs, n, _, hx, hl, hlen, hg⟩ := DataW.trod_struct Try.underlying24 hf
  match xs, hlen, hg with
  | [y0, y1, y2], _, hg =>
    have g0 : DataW.trod enc Try.prog W base sp hd n 9 (([c0, c1, c2] : List Value).drop (0) |>.take (Try.prog.cellsOf 9)) = some y0 := hg 0 _ rfl
    rw [h_cof_string] at g0
    have g1 : DataW.trod enc Try.prog W base sp hd n 3 (([c0, c1, c2] : List Value).drop (1) |>.take (Try.prog.cellsOf 3)) = some y1 := hg 1 _ rfl
    rw [h_cof_int] at g1
    have g2 : DataW.trod enc Try.prog W base sp hd n 3 (([c0, c1, c2] : List Value).drop (2) |>.take (Try.prog.cellsOf 3)) = some y2 := hg 2 _ rfl
    rw [h_cof_int] at g2
    obtain ⟨v0, rfl, b0⟩ := cof_string (c0 := c0) g0
    obtain ⟨v1, rfl, b1⟩ := cof_int (c0 := c1) g1
    obtain ⟨v2, rfl, b2⟩ := cof_int (c0 := c2) g2
    exact ⟨v0, v1, v2, ⟨rfl, rfl, rfl⟩, ⟨b0, b1, b2⟩⟩

theorem open_ak {H : Type} {enc : TypeId × Value → H} {W : World} {base : Nat} {v : Value} {d : DataW H} {p : List MemPlace}
    (hval : Value.okWide Try.prog W .any base 24 v) (h : DataW.Trod enc Try.prog W 0 (fun _ => true) true 24 v d p) : ∃ a : Ak, v = akV a ∧ AkOk a := by
  obtain ⟨cs, rfl, hsz, _⟩ : ∃ cs, v = .agg cs ∧ cs.size = Try.prog.cellsOf 24 ∧ Row.okWide Try.prog W .any base 24 cs := by
    simpa [Value.okWide, Try.underlying24] using hval
  rw [show Try.prog.cellsOf 24 = 3 by kernel_rfl] at hsz
  obtain ⟨l⟩ := cs
  obtain ⟨fuel, hf⟩ := h
  match l, hsz, hf with
  | [c0, c1, c2], _, hf =>
    obtain ⟨v0, v1, v2, ⟨rfl, rfl, rfl⟩, ⟨b0, b1, b2⟩⟩ := cof_marlinspikelaw14_Act (c0 := c0) (c1 := c1) (c2 := c2) hf
    exact ⟨⟨v0, v1, v2⟩, rfl, b0, b1, b2⟩

theorem cof__3_int {H : Type} {enc : TypeId × Value → H} {W : World} {base n : Nat} {sp : Nat → Bool} {hd : Bool} {c0 c1 c2 : Value} {x : DataW H × List MemPlace}
    (hf : DataW.trod enc Try.prog W base sp hd n 49 [c0, c1, c2] = some x) : ∃ i0 : Int, ∃ i1 : Int, ∃ i2 : Int, (c0 = .int .i64 i0 ∧ c1 = .int .i64 i1 ∧ c2 = .int .i64 i2) ∧ ((-9223372036854775808 ≤ i0 ∧ i0 ≤ 9223372036854775807) ∧ (-9223372036854775808 ≤ i1 ∧ i1 ≤ 9223372036854775807) ∧ (-9223372036854775808 ≤ i2 ∧ i2 ≤ 9223372036854775807)) := by
  have h_cof_int : Try.prog.cellsOf 3 = 1 := by kernel_rfl
  obtain ⟨xs, n, _, hx, hl, hlen, hg⟩ := DataW.trod_array Try.underlying49 hf
  match xs, hlen, hg with
  | [y0, y1, y2], _, hg =>
    have g0 : DataW.trod enc Try.prog W base sp hd n 3 (([c0, c1, c2] : List Value).drop (0 * Try.prog.cellsOf 3) |>.take (Try.prog.cellsOf 3)) = some y0 := hg 0 (by decide)
    rw [h_cof_int] at g0
    have g1 : DataW.trod enc Try.prog W base sp hd n 3 (([c0, c1, c2] : List Value).drop (1 * Try.prog.cellsOf 3) |>.take (Try.prog.cellsOf 3)) = some y1 := hg 1 (by decide)
    rw [h_cof_int] at g1
    have g2 : DataW.trod enc Try.prog W base sp hd n 3 (([c0, c1, c2] : List Value).drop (2 * Try.prog.cellsOf 3) |>.take (Try.prog.cellsOf 3)) = some y2 := hg 2 (by decide)
    rw [h_cof_int] at g2
    obtain ⟨v0, rfl, b0⟩ := cof_int (c0 := c0) g0
    obtain ⟨v1, rfl, b1⟩ := cof_int (c0 := c1) g1
    obtain ⟨v2, rfl, b2⟩ := cof_int (c0 := c2) g2
    exact ⟨v0, v1, v2, ⟨rfl, rfl, rfl⟩, ⟨b0, b1, b2⟩⟩

theorem open_arr3 {H : Type} {enc : TypeId × Value → H} {W : World} {base : Nat} {v : Value} {d : DataW H} {p : List MemPlace}
    (hval : Value.okWide Try.prog W .any base 49 v) (h : DataW.Trod enc Try.prog W 0 (fun _ => true) true 49 v d p) : ∃ x y z : Int, v = .agg #[.int .i64 x, .int .i64 y, .int .i64 z] ∧ (-9223372036854775808 ≤ x ∧ x ≤ 9223372036854775807) ∧ (-9223372036854775808 ≤ y ∧ y ≤ 9223372036854775807) ∧ (-9223372036854775808 ≤ z ∧ z ≤ 9223372036854775807) := by
  obtain ⟨cs, rfl, hsz, _⟩ : ∃ cs, v = .agg cs ∧ cs.size = Try.prog.cellsOf 49 ∧ Row.okWide Try.prog W .any base 49 cs := by
    simpa [Value.okWide, Try.underlying49] using hval
  rw [show Try.prog.cellsOf 49 = 3 by kernel_rfl] at hsz
  obtain ⟨l⟩ := cs
  obtain ⟨fuel, hf⟩ := h
  match l, hsz, hf with
  | [c0, c1, c2], _, hf =>
    obtain ⟨v0, v1, v2, ⟨rfl, rfl, rfl⟩, ⟨b0, b1, b2⟩⟩ := cof__3_int (c0 := c0) (c1 := c1) (c2 := c2) hf
    exact ⟨v0, v1, v2, rfl, b0, b1, b2⟩

instance : Inhabited Ak := ⟨⟨[], 0, 0⟩⟩
theorem open_aks {H : Type} {enc : TypeId × Value → H} {W : World} {base : Nat} {v : Value} {d : DataW H} {p : List MemPlace}
    (hval : Value.okWide Try.prog W .any base 22 v) (h : DataW.Trod enc Try.prog W 0 (fun _ => true) true 22 v d p) :
    ∃ A n c l, v = .slice A n c ∧ RdS 3 akL W A n l ∧ n ≤ c ∧ c ≤ maxLen ∧ ∀ x ∈ l, AkOk x := by
  have hA : Try.prog.cellsOf 24 = 3 := by kernel_rfl
  obtain ⟨a0, n, c, rfl⟩ := Go.WideShapes.okWide_slice Try.underlying22 hval
  obtain ⟨fuel, hf⟩ := h
  rcases open_slice Try.underlying22 hf with ⟨hcs, hx⟩ | ⟨a, len, cap, m, k, D, Pl, hcs, _, hle, hmax, hm, hx, hcell⟩
  · simp [Value.cells] at hcs
    obtain ⟨rfl, rfl, rfl⟩ := hcs
    exact ⟨none, 0, 0, [], rfl, RdS.nil _, by omega, by decide, fun x hx => by cases hx⟩
  · simp [Value.cells] at hcs
    obtain ⟨rfl, rfl, rfl⟩ := hcs
    simp only [if_true] at hm
    have hmax' := hmax
    simp only [maxLen] at hmax
    rw [hA] at hcell
    obtain ⟨Z, hZ⟩ := choose_lt (α := Ak) (n := n) (p := fun i z => AkOk z ∧ ∀ j v, (akL z)[j]? = some v → W.cell? ((a.add (i * 3)).add j) = some v) (fun i hi => by
      obtain ⟨cs', h1, h2⟩ := hcell i (by omega)
      obtain ⟨_, hlen, hat⟩ := World.cells?_some h1
      match cs', hlen, hat, h2 with
      | [c0, c1, c2], _, hat, h2 =>
        obtain ⟨v0, v1, v2, ⟨rfl, rfl, rfl⟩, ⟨b0, b1, b2⟩⟩ := cof_marlinspikelaw14_Act h2
        refine ⟨⟨v0, v1, v2⟩, ⟨b0, b1, b2⟩, fun j v hj => ?_⟩
        have hj7 : j < 3 := by
          by_cases h3 : j < 3
          · exact h3
          · rw [List.getElem?_eq_none (by show 3 ≤ j; omega)] at hj; cases hj
        rw [hat j hj7]
        exact hj)
    simp only [Prod.mk.injEq] at hx
    refine ⟨some a, n, c, (List.range n).map Z, rfl, ⟨by simp, by omega, fun _ => ⟨a, rfl, fun i x hx j v hj => ?_⟩⟩, hle, hmax', fun x hx => ?_⟩
    · have hi : i < n := by
        rcases Nat.lt_or_ge i n with h1 | h1
        · exact h1
        · rw [List.getElem?_eq_none (by simpa using h1)] at hx; cases hx
      have e : x = Z i := by simp [hi] at hx; exact hx.symm
      subst e
      exact (hZ i hi).2 j v hj
    · obtain ⟨i, hi, rfl⟩ := List.mem_map.1 hx
      exact (hZ i (List.mem_range.1 hi)).1
end Go.Proofs.Ytflgnlpippjhcaa
