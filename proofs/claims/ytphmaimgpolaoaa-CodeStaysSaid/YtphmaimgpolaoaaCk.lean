/- Code: a script of acts that came in. -/
import Derived.Test.YtphmaimgpolaoaaCj
import Derived.Test.YtphmaimgpolaoaaCd
set_option linter.unusedVariables false
namespace Go.Proofs.Ytphmaimgpolaoaa
open Go.ChangeShapes Go.WideShapes Go.ChangeAt Go.RowKit Go.Deep

section
variable {H : Type} {enc : TypeId × Value → H} {W : World} {base : Nat} {v : Value} {d : DataW H} {p : List MemPlace}
instance : Inhabited Ac := ⟨⟨0, 0, 0⟩⟩
theorem open_acts (hval : Value.okWide Try.prog W .any base 48 v) (h : DataW.Trod enc Try.prog W 0 (fun _ => true) true 48 v d p) :
    ∃ A n c l, v = .slice A n c ∧ ReadsAc W A n l ∧ (n = 0 ∨ ∃ es sp, d = .slice es sp ∧ es.length = n) := by
  have hA : Try.prog.cellsOf 50 = 3 := by kernel_rfl
  have h8 : Try.prog.cellsOf 5 = 1 := by kernel_rfl
  have hi1 : Try.prog.cellsOf 3 = 1 := by kernel_rfl
  obtain ⟨a0, n, c, rfl⟩ := Go.WideShapes.okWide_slice Try.underlying48 hval
  obtain ⟨fuel, hf⟩ := h
  rcases open_slice Try.underlying48 hf with ⟨hcs, hx⟩ | ⟨a, len, cap, m, k, D, Pl, hcs, _, hle, hmax, hm, hx, hcell⟩
  · simp [Value.cells] at hcs
    obtain ⟨rfl, rfl, rfl⟩ := hcs
    exact ⟨none, 0, 0, [], rfl, ⟨rfl, by omega, (fun a ha => by cases ha), fun h => absurd h (by omega)⟩, .inl rfl⟩
  · simp [Value.cells] at hcs
    obtain ⟨rfl, rfl, rfl⟩ := hcs
    simp only [if_true] at hm
    simp only [maxLen] at hmax
    rw [hA] at hcell
    obtain ⟨Z, hZ⟩ := choose_lt (α := Ac) (n := n) (p := fun i z => (∀ j v, (acL z)[j]? = some v → W.cell? ((a.add (i * 3)).add j) = some v) ∧ 0 ≤ z.kind ∧ z.kind ≤ 255) (fun i hi => by
      obtain ⟨cs', h1, h2⟩ := hcell i (by omega)
      obtain ⟨_, hlen, hat⟩ := World.cells?_some h1
      obtain ⟨xs, n', _, hx', hl, hlen', hg⟩ := DataW.trod_struct Try.underlying50 h2
      match cs', hlen, hat, xs, hlen', hg with
      | [c0, c1, c2], _, hat, [y0, y1, y2], _, hg =>
        have g0 : DataW.trod enc Try.prog W 0 (fun _ => true) true n' 5 (([c0, c1, c2] : List Value).drop 0 |>.take (Try.prog.cellsOf 5)) = some y0 := hg 0 _ rfl
        have g1 : DataW.trod enc Try.prog W 0 (fun _ => true) true n' 3 (([c0, c1, c2] : List Value).drop 1 |>.take (Try.prog.cellsOf 3)) = some y1 := hg 1 _ rfl
        have g2 : DataW.trod enc Try.prog W 0 (fun _ => true) true n' 3 (([c0, c1, c2] : List Value).drop 2 |>.take (Try.prog.cellsOf 3)) = some y2 := hg 2 _ rfl
        rw [h8] at g0
        rw [hi1] at g1 g2
        obtain ⟨x0, e0, _, w0⟩ := DataW.trod_int Try.underlying5 g0
        obtain ⟨x1, e1, _, w1⟩ := DataW.trod_int Try.underlying3 g1
        obtain ⟨x2, e2, _, w2⟩ := DataW.trod_int Try.underlying3 g2
        simp at e0 e1 e2
        subst e0 e1 e2
        refine ⟨⟨x0, x1, x2⟩, fun j v hj => ?_, bounds_u8' w0⟩
        have hj3 : j < 3 := by
          by_cases h3 : j < 3
          · exact h3
          · rw [List.getElem?_eq_none (by show 3 ≤ j; omega)] at hj; cases hj
        rw [hat j hj3]
        exact hj)
    simp only [Prod.mk.injEq] at hx
    refine ⟨some a, n, c, (List.range n).map Z, rfl, ⟨by simp, by omega, fun x hx => ?_, fun _ => ⟨a, rfl, fun i hi j v hj => ?_⟩⟩, .inr ⟨_, _, hx.1, by simp⟩⟩
    · obtain ⟨i, hi, rfl⟩ := List.mem_map.1 hx
      exact (hZ i (List.mem_range.1 hi)).2
    · refine (hZ i hi).1 j v ?_
      rw [← hj]
      simp [List.getD_eq_getElem?_getD, hi]
end
end Go.Proofs.Ytphmaimgpolaoaa
