/- Prof: ok, span. -/
import Derived.Test.YtkgphbjneaagoaaDoorF5
set_option linter.unusedVariables false
namespace Go.Proofs.YtkgphbjneaagoaaDoor
open Go.RowKit Go.Sort

theorem PfOk.pos {w : World} {g : Nat} {nodes : NS} {A : Option Addr} {c : Nat} {l : List (Sp NS)} {t0 : Int} (h : PfOk w g nodes A c l t0) : 0 < l.length := by
  obtain ⟨x, r, rfl, _⟩ := h.prf.first
  simp
theorem PfOk.first {w : World} {g : Nat} {nodes : NS} {A : Option Addr} {c : Nat} {l : List (Sp NS)} {t0 : Int} (h : PfOk w g nodes A c l t0) : (stp emptyS l 0).at_ = t0 := by
  obtain ⟨x, r, rfl, e⟩ := h.prf.first
  exact e
theorem PfOk.after {w w' : World} {g : Nat} {nodes : NS} {A : Option Addr} {c : Nat} {l : List (Sp NS)} {t0 : Int} (h : PfOk w g nodes A c l t0) (hb : Below w.heap.size w w') : PfOk w' g nodes A c l t0 :=
  ⟨(Own.pf g nodes A c l).keep w w' (fun k hk => hb.block k ((Own.pf g nodes A c l).lt w h.ok k hk)) h.ok, h.len, h.prf, h.low⟩
set_option maxRecDepth 100000 in
set_option maxHeartbeats 4000000 in
theorem ok_c (g : Nat) (nodes : NS) (A : Option Addr) (c : Nat) (l : List (Sp NS)) (t0 : Int) (w : World) (h : PfOk w g nodes A c l t0) :
    Calls Tryd.prog 58 #[.pointer (some ⟨g, 0, none⟩)] w fun e w' => e = .returned (.bool true) ∧ Below w.heap.size w w' := by
  have HH := Lib.hid h
  have hp : 0 < l.length := h.pos
  have hpI : (0 : Int) < (l.length : Int) := by omega
  have HS0 := Lib.hid ((Ms.nil w noB))
  clear h
  go_enter Tryd.func58, Tryd.ntmps58
  obtain ⟨r1, r2, r3⟩ := HH.out.blk.rules
  go_wp2_with fail
  go_ret
  exact ⟨rfl, Below.refl _ _⟩
/-- May a span be? -/
def spanE (t0 lo hi : Int) : Int := if lo < t0 ∨ hi ≤ lo ∨ 2199023255552 < hi then 1 else 0
set_option maxRecDepth 100000 in
set_option maxHeartbeats 4000000 in
theorem span_pc (g : Nat) (nodes : NS) (A : Option Addr) (c : Nat) (l : List (Sp NS)) (t0 lo hi : Int) (w : World) (h : PfOk w g nodes A c l t0) :
    Calls Tryd.prog 65 #[.pointer (some ⟨g, 0, none⟩), .int .i64 lo, .int .i64 hi] w fun e w' => e = .returned (.int .i64 (spanE t0 lo hi)) ∧ Below w.heap.size w w' := by
  have HH := Lib.hid h
  have hp : 0 < l.length := h.pos
  have hpI : (0 : Int) < (l.length : Int) := by omega
  have hlI : (l.length : Int) ≤ 1048576 := by have := h.len; omega
  obtain ⟨ad, hAe, hcx⟩ := h.read.2.2 hp
  have hc0 := hcx 0 hp 0 (.int .i64 (stp emptyS l 0).at_) rfl
  rw [h.first] at hc0
  have HC := Lib.hid hc0
  clear hcx hc0 h
  subst hAe
  go_enter Tryd.func65, Tryd.ntmps65
  go_wp2_with fail
  refine (ok_c g nodes (some ad) c l t0 _ HH.out).mono ?_
  rintro e W1 ⟨rfl, hb⟩
  have HW := Lib.hid hb
  obtain ⟨r1, r2, r3⟩ := (HH.out.after hb).blk.rules
  have hcell : W1.cell? ((ad.add (0 * 5)).add 0) = some (.int .i64 t0) := (hb.cell (block_lt_of_cell HC.out)).trans HC.out
  clear hb
  have hcell0 : W1.cell? ad = some (.int .i64 t0) := by
    have e : (ad.add (0 * 5)).add 0 = ad := by cases ad; simp [Addr.add]
    rw [← e]; exact hcell
  by_cases h1 : lo < t0
  · have HE := Lib.hid (show spanE t0 lo hi = 1 by unfold spanE; rw [if_pos (.inl h1)])
    go_wp2_with fail
    go_ret
    exact ⟨by rw [HE.out]; rfl, HW.out⟩
  · have h1I : t0 ≤ lo := by omega
    by_cases h2 : hi ≤ lo
    · have HE := Lib.hid (show spanE t0 lo hi = 1 by unfold spanE; rw [if_pos (.inr (.inl h2))])
      go_wp2_with fail
      go_ret
      exact ⟨by rw [HE.out]; rfl, HW.out⟩
    · have h2I : lo < hi := by omega
      by_cases h3 : 2199023255552 < hi
      · have HE := Lib.hid (show spanE t0 lo hi = 1 by unfold spanE; rw [if_pos (.inr (.inr h3))])
        go_wp2_with fail
        go_ret
        exact ⟨by rw [HE.out]; rfl, HW.out⟩
      · have HE := Lib.hid (show spanE t0 lo hi = 0 by unfold spanE; rw [if_neg (by omega)])
        have h3I : hi ≤ 2199023255552 := by omega
        go_wp2_with fail
        go_ret
        exact ⟨by rw [HE.out]; rfl, HW.out⟩
end Go.Proofs.YtkgphbjneaagoaaDoor
