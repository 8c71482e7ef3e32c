/- Prof: a step's set, as it is read. -/
import Derived.Test.YtkgphbjneaagoaaDoorF6
set_option linter.unusedVariables false
namespace Go.Proofs.YtkgphbjneaagoaaDoor
open Go.RowKit Go.Sort

theorem PfOk.addr {w : World} {g : Nat} {nodes : NS} {A : Option Addr} {c : Nat} {l : List (Sp NS)} {t0 : Int} (h : PfOk w g nodes A c l t0) (ad : Addr) (hA : A = some ad) (hp : 0 < l.length) : ad.spot = none := by
  obtain ⟨b, cap, e, _⟩ := World.ownsRow.form (h.ok.2.1 : w.ownsRow 0 113 5 (slP A c l) l.length (spC l)) hp
  injection e with e1
  rw [hA] at e1
  injection e1 with e1
  rw [e1]
theorem find_i (g : Nat) (nodes : NS) (A : Option Addr) (c : Nat) (l : List (Sp NS)) (t0 t : Int) (i : Nat) (w : World) (h : PfOk w g nodes A c l t0) (ht : t0 ≤ t ∧ t ≤ 2199023255552) (hi : At emptyS l t i) :
    Calls Tryd.prog 59 #[.pointer (some ⟨g, 0, none⟩), .int .i64 t] w fun e w' => e = .returned (.int .i64 (i : Nat)) ∧ Below w.heap.size w w' :=
  (find_c g nodes A c l t0 t w h ht).mono fun _ _ ⟨⟨j, hj, he⟩, hb⟩ => ⟨by rw [he, hj.uniq h.prf.can hi], hb⟩
abbrev nsL (s : NS) : List Value := [.int .u64 (wn s 0 : Nat), .int .u64 (wn s 1 : Nat), .int .u64 (wn s 2 : Nat), .int .u64 (wn s 3 : Nat)]
theorem ReadsP.at_ {w : World} {ad : Addr} {n : Nat} {l : List (Sp NS)} (h : ReadsP w (some ad) n l) {i : Nat} (hi : i < n) : ∀ j v, (spL (stp emptyS l i))[j]? = some v → w.cell? ((ad.add (i * 5)).add j) = some v := by
  obtain ⟨ad', e, hc⟩ := h.2.2 (by omega)
  cases e
  exact hc i hi
theorem add_add (a : Addr) (h : a.spot = none) (i j : Nat) : (a.add i).add j = a.add (i + j) := by
  cases a; simp only at h; subst h; rw [add_at, add_at, add_at, Nat.add_assoc]
theorem ReadsP.free {w : World} {ad : Addr} {n : Nat} {l : List (Sp NS)} (h : ReadsP w (some ad) n l) (hp : ad.spot = none) {i : Nat} (hi : i < n) : ∀ j v, (nsL (stp emptyS l i).free)[j]? = some v → w.cell? (((ad.add (i * 5)).add 1).add j) = some v := fun j v hj => by
  have h1 := h.at_ hi (j + 1) v hj
  rw [← h1]
  obtain ⟨g, k, e⟩ : ∃ g k, ad = ⟨g, k, none⟩ := by cases ad; simp only at hp; subst hp; exact ⟨_, _, rfl⟩
  rw [e, add_at, add_at, add_at, add_at]
  congr 2
  omega
end Go.Proofs.YtkgphbjneaagoaaDoor
