/- A view that came in. -/
import Derived.Test.YtmhbblkihjmonaaDoorLaw
import Derived.Test.YtmhbblkihjmonaaDoorS3
set_option linter.unusedVariables false
namespace Go.Proofs.YtmhbblkihjmonaaDoor
open Go.ChangeShapes Go.WideShapes Go.ChangeAt Go.RowKit

theorem ns_of_trod {H : Type} {enc : TypeId × Value → H} {W : World} {base n : Nat} {sp : Nat → Bool} {hd : Bool} {c0 c1 c2 c3 : Value} {x : DataW H × List MemPlace} (hc1 : Tryd.prog.cellsOf 22 = 1)
    (hf : DataW.trod enc Tryd.prog W base sp hd n 24 [c0, c1, c2, c3] = some x) : ∃ s : NS, c0 = .int .u64 (wn s 0 : Nat) ∧ c1 = .int .u64 (wn s 1 : Nat) ∧ c2 = .int .u64 (wn s 2 : Nat) ∧ c3 = .int .u64 (wn s 3 : Nat) := by
  obtain ⟨y0, y1, y2, y3, m, hx, hy0, hy1, hy2, hy3⟩ := trod_array4 Tryd.underlying24 hc1 hf
  obtain ⟨x0, e0, rfl, w0⟩ := DataW.trod_int Tryd.underlying22 hy0
  obtain ⟨x1, e1, rfl, w1⟩ := DataW.trod_int Tryd.underlying22 hy1
  obtain ⟨x2, e2, rfl, w2⟩ := DataW.trod_int Tryd.underlying22 hy2
  obtain ⟨x3, e3, rfl, w3⟩ := DataW.trod_int Tryd.underlying22 hy3
  simp at e0 e1 e2 e3
  subst e0 e1 e2 e3
  obtain ⟨s, rfl, rfl, rfl, rfl⟩ := ns_of_words x0 x1 x2 x3 (bounds_u64 w0) (bounds_u64 w1) (bounds_u64 w2) (bounds_u64 w3)
  exact ⟨s, rfl, rfl, rfl, rfl⟩
theorem int_of_trod {H : Type} {enc : TypeId × Value → H} {W : World} {base n : Nat} {sp : Nat → Bool} {hd : Bool} {c : Value} {x : DataW H × List MemPlace}
    (hf : DataW.trod enc Tryd.prog W base sp hd n 3 [c] = some x) : ∃ i : Int, c = .int .i64 i ∧ -9223372036854775808 ≤ i ∧ i ≤ 9223372036854775807 := by
  obtain ⟨x0, e0, rfl, w0⟩ := DataW.trod_int Tryd.underlying3 hf
  simp at e0
  subst e0
  exact ⟨x0, rfl, bounds_i64 w0⟩
theorem open_view {H : Type} {enc : TypeId × Value → H} {W : World} {base : Nat} {v : Value} {d : DataW H} {p : List MemPlace} (hc : Tryd.prog.cellsOf 43 = 19) (hc4 : Tryd.prog.cellsOf 24 = 4) (hc1 : Tryd.prog.cellsOf 22 = 1) (hci : Tryd.prog.cellsOf 3 = 1)
    (hval : Value.okWide Tryd.prog W .any base 43 v) (h : DataW.Trod enc Tryd.prog W 0 (fun _ => true) true 43 v d p) : ∃ u : Vw, v = viewV u := by
  obtain ⟨cs, rfl, hsz, _⟩ : ∃ cs, v = .agg cs ∧ cs.size = Tryd.prog.cellsOf 43 ∧ Row.okWide Tryd.prog W .any base 43 cs := by
    simpa [Value.okWide, Tryd.underlying43] using hval
  rw [hc] at hsz
  obtain ⟨l⟩ := cs
  obtain ⟨fuel, hf⟩ := h
  obtain ⟨xs, n, _, hx, hl, hlen, hg⟩ := DataW.trod_struct Tryd.underlying43 hf
  match l, hsz, hg with
  | [c0, c1, c2, c3, c4, c5, c6, c7, c8, c9, c10, c11, c12, c13, c14, c15, c16, c17, c18], _, hg =>
    match xs, hlen, hg with
    | [y0, y1, y2, y3, y4, y5, y6], _, hg =>
      have g0 : DataW.trod enc Tryd.prog W 0 (fun _ => true) true n 24 (([c0, c1, c2, c3, c4, c5, c6, c7, c8, c9, c10, c11, c12, c13, c14, c15, c16, c17, c18] : List Value).drop 0 |>.take (Tryd.prog.cellsOf 24)) = some y0 := hg 0 _ rfl
      have g1 : DataW.trod enc Tryd.prog W 0 (fun _ => true) true n 24 (([c0, c1, c2, c3, c4, c5, c6, c7, c8, c9, c10, c11, c12, c13, c14, c15, c16, c17, c18] : List Value).drop 4 |>.take (Tryd.prog.cellsOf 24)) = some y1 := hg 1 _ rfl
      have g2 : DataW.trod enc Tryd.prog W 0 (fun _ => true) true n 24 (([c0, c1, c2, c3, c4, c5, c6, c7, c8, c9, c10, c11, c12, c13, c14, c15, c16, c17, c18] : List Value).drop 8 |>.take (Tryd.prog.cellsOf 24)) = some y2 := hg 2 _ rfl
      have g3 : DataW.trod enc Tryd.prog W 0 (fun _ => true) true n 24 (([c0, c1, c2, c3, c4, c5, c6, c7, c8, c9, c10, c11, c12, c13, c14, c15, c16, c17, c18] : List Value).drop 12 |>.take (Tryd.prog.cellsOf 24)) = some y3 := hg 3 _ rfl
      have g4 : DataW.trod enc Tryd.prog W 0 (fun _ => true) true n 3 (([c0, c1, c2, c3, c4, c5, c6, c7, c8, c9, c10, c11, c12, c13, c14, c15, c16, c17, c18] : List Value).drop 16 |>.take (Tryd.prog.cellsOf 3)) = some y4 := hg 4 _ rfl
      have g5 : DataW.trod enc Tryd.prog W 0 (fun _ => true) true n 3 (([c0, c1, c2, c3, c4, c5, c6, c7, c8, c9, c10, c11, c12, c13, c14, c15, c16, c17, c18] : List Value).drop 17 |>.take (Tryd.prog.cellsOf 3)) = some y5 := hg 5 _ rfl
      have g6 : DataW.trod enc Tryd.prog W 0 (fun _ => true) true n 3 (([c0, c1, c2, c3, c4, c5, c6, c7, c8, c9, c10, c11, c12, c13, c14, c15, c16, c17, c18] : List Value).drop 18 |>.take (Tryd.prog.cellsOf 3)) = some y6 := hg 6 _ rfl
      rw [hc4] at g0 g1 g2 g3
      rw [hci] at g4 g5 g6
      obtain ⟨s0, rfl, rfl, rfl, rfl⟩ := ns_of_trod (c0 := c0) (c1 := c1) (c2 := c2) (c3 := c3) hc1 g0
      obtain ⟨s1, rfl, rfl, rfl, rfl⟩ := ns_of_trod (c0 := c4) (c1 := c5) (c2 := c6) (c3 := c7) hc1 g1
      obtain ⟨s2, rfl, rfl, rfl, rfl⟩ := ns_of_trod (c0 := c8) (c1 := c9) (c2 := c10) (c3 := c11) hc1 g2
      obtain ⟨s3, rfl, rfl, rfl, rfl⟩ := ns_of_trod (c0 := c12) (c1 := c13) (c2 := c14) (c3 := c15) hc1 g3
      obtain ⟨i4, rfl, _, _⟩ := int_of_trod (c := c16) g4
      obtain ⟨i5, rfl, _, _⟩ := int_of_trod (c := c17) g5
      obtain ⟨i6, rfl, _, _⟩ := int_of_trod (c := c18) g6
      exact ⟨⟨s0, s1, s2, s3, i4, i5, i6⟩, rfl⟩
end Go.Proofs.YtmhbblkihjmonaaDoor
