/- Prof: the profile in memory; the comparer of find; New. -/
import Derived.Test.YtkgphbjneaagoaaDoorFb
import Derived.Test.YtkgphbjneaagoaaDoorF2
import Derived.Test.YtkgphbjneaagoaaDoorMu
set_option linter.unusedVariables false
namespace Go.Proofs.YtkgphbjneaagoaaDoor
open Go.RowKit Go.Sort

/-- A step's cells. -/
abbrev spL (s : Sp NS) : List Value := [.int .i64 s.at_, .int .u64 (wn s.free 0 : Nat), .int .u64 (wn s.free 1 : Nat), .int .u64 (wn s.free 2 : Nat), .int .u64 (wn s.free 3 : Nat)]
abbrev spA (s : Sp NS) : Array Value := #[.int .i64 s.at_, .int .u64 (wn s.free 0 : Nat), .int .u64 (wn s.free 1 : Nat), .int .u64 (wn s.free 2 : Nat), .int .u64 (wn s.free 3 : Nat)]
abbrev spV (s : Sp NS) : Value := .agg (spA s)
def spC (l : List (Sp NS)) : List Value := l.flatMap spL
theorem spC_append (a b : List (Sp NS)) : spC (a ++ b) = spC a ++ spC b := by simp [spC]
theorem spC_one (s : Sp NS) : spC [s] = spL s := by simp [spC]
theorem spC_len : ∀ l : List (Sp NS), (spC l).length = l.length * 5
  | [] => rfl
  | s :: r => by
    have := spC_len r
    show (spL s ++ spC r).length = _
    have h5 : (spL s).length = 5 := rfl
    have h6 : (s :: r).length = r.length + 1 := rfl
    rw [List.length_append, this, h5, h6]
    omega
theorem spC_get : ∀ (l : List (Sp NS)) (i j : Nat), i < l.length → j < 5 → (spC l)[i * 5 + j]? = (spL (stp emptyS l i))[j]?
  | s :: r, 0, j, _, hj => by
    show (spL s ++ spC r)[0 * 5 + j]? = _
    rw [List.getElem?_append_left (by show 0 * 5 + j < 5; omega), Nat.zero_mul, Nat.zero_add]
    rfl
  | s :: r, i + 1, j, hi, hj => by
    show (spL s ++ spC r)[(i + 1) * 5 + j]? = _
    rw [List.getElem?_append_right (by show 5 ≤ (i + 1) * 5 + j; omega)]
    show (spC r)[(i + 1) * 5 + j - 5]? = _
    rw [show (i + 1) * 5 + j - 5 = i * 5 + j by omega, spC_get r i j (by simpa using hi) hj]
    rfl
abbrev slP (A : Option Addr) (c : Nat) (l : List (Sp NS)) : Value := .slice A l.length c
abbrev rowP (A : Option Addr) (c : Nat) (l : List (Sp NS)) : Own := .row 113 5 (slP A c l) l.length (spC l)
abbrev pfA (nodes : NS) (A : Option Addr) (c : Nat) (l : List (Sp NS)) : Array Value := #[.int .u64 (wn nodes 0 : Nat), .int .u64 (wn nodes 1 : Nat), .int .u64 (wn nodes 2 : Nat), .int .u64 (wn nodes 3 : Nat), slP A c l]
abbrev blkP (g : Nat) (nodes : NS) (A : Option Addr) (c : Nat) (l : List (Sp NS)) : Own := .blk g 116 (pfA nodes A c l)
/-- A profile: its block, and its steps in a row. -/
def Own.pf (g : Nat) (nodes : NS) (A : Option Addr) (c : Nat) (l : List (Sp NS)) : Own where
  bl k := k = g ∨ (slP A c l).ownBlock = some k
  ok W := (blkP g nodes A c l).ok W ∧ (rowP A c l).ok W ∧ (slP A c l).ownBlock ≠ some g
  lt W h k hk := hk.elim (fun h1 => (blkP g nodes A c l).lt W h.1 k h1) (fun h1 => (rowP A c l).lt W h.2.1 k h1)
  keep W W' hk h := ⟨(blkP g nodes A c l).keep W W' (fun k h1 => hk k (.inl h1)) h.1, (rowP A c l).keep W W' (fun k h1 => hk k (.inr h1)) h.2.1, h.2.2⟩

set_option maxRecDepth 100000 in
set_option maxHeartbeats 4000000 in
theorem cmp_c (s : Sp NS) (t : Int) (w : World) (hs : 0 ≤ s.at_ ∧ s.at_ ≤ 2199023255552) (ht : 0 ≤ t ∧ t ≤ 2199023255552) :
    Calls Tryd.prog 69 #[spV s, .int .i64 t] w fun e w' => e = .returned (.int .i64 (s.at_ - t)) ∧ Below w.heap.size w w' := by
  obtain ⟨hs0, hs1⟩ := hs
  obtain ⟨ht0, ht1⟩ := ht
  have HS0 := Lib.hid ((Ms.nil w noB))
  go_enter Tryd.func69, Tryd.ntmps69
  go_wp2_with (refine wpList_alloc_b rfl (some 2) rfl 113 (spA s) (by kernel_rfl) ?_; intro g1 W1 hb hB hg; have HS1 := Lib.hid (HS0.out.new hb hB hg); clear hb hB hg HS0; obtain ⟨r1, r2, r3⟩ := HS1.out.rules 0 rfl)
  go_ret
  exact ⟨by congr 2, HS1.out.below⟩
set_option maxRecDepth 100000 in
set_option maxHeartbeats 4000000 in
theorem newP_no (nodes : NS) (now : Int) (w : World) (h : now < 0 ∨ 1099511627776 < now) (hb : -9223372036854775808 ≤ now ∧ now ≤ 9223372036854775807) :
    Calls Tryd.prog 42 #[nsV nodes, .int .i64 now] w fun e w' => e = .returned (.tuple #[.pointer none, .int .i64 1]) ∧ Below w.heap.size w w' := by
  have HS0 := Lib.hid ((Ms.nil w noB))
  by_cases h0 : now < 0
  · go_enter Tryd.func42, Tryd.ntmps42
    go_wp2_with (refine wpList_alloc_b rfl (some 2) rfl 24 (nsA nodes) (by kernel_rfl) ?_; intro g1 W1 hb hB hg; have HS1 := Lib.hid (HS0.out.new hb hB hg); clear hb hB hg HS0)
    go_ret2
    exact ⟨rfl, HS1.out.below⟩
  · have h1 : 1099511627776 < now := by omega
    go_enter Tryd.func42, Tryd.ntmps42
    go_wp2_with (refine wpList_alloc_b rfl (some 2) rfl 24 (nsA nodes) (by kernel_rfl) ?_; intro g1 W1 hb hB hg; have HS1 := Lib.hid (HS0.out.new hb hB hg); clear hb hB hg HS0)
    go_ret2
    exact ⟨rfl, HS1.out.below⟩
theorem Ms.pfOf {w W : World} {ex : Nat → Prop} {l : List Own} {g : Nat} {nodes : NS} {A : Option Addr} {c : Nat} {s : List (Sp NS)} (h : Ms w ex l W) (i j : Nat) (hi : l[i]? = some (blkP g nodes A c s)) (hj : l[j]? = some (rowP A c s)) (hij : i ≠ j) : Ms w ex [.pf g nodes A c s] W := by
  have h2 := h.pick (fun k => if k = 0 then i else j) [blkP g nodes A c s, rowP A c s] (fun k o hk => by
    match k, hk with
    | 0, hk => simp at hk; subst hk; simpa using hi
    | 1, hk => simp at hk; subst hk; simpa using hj
    | k + 2, hk => simp at hk) (fun a b ha hb he => by
    simp only [List.length_cons, List.length_nil] at ha hb
    by_cases ha0 : a = 0 <;> by_cases hb0 : b = 0 <;> simp [ha0, hb0] at he <;> omega)
  exact h2.join (fun h1 h3 => ⟨h1, h3, fun e => h2.apart 0 1 _ _ rfl rfl (by decide) g rfl e⟩) (fun k hk => hk)
/-- What makes a profile. -/
def NewP (w : World) (nodes : NS) (l : List (Sp NS)) (g : Nat) (W : World) : Prop := ∃ A c, Ms w noB [.pf g nodes A c l] W
set_option maxRecDepth 100000 in
set_option maxHeartbeats 4000000 in
theorem newP_yes (nodes : NS) (now : Int) (w : World) (h0 : 0 ≤ now) (h1 : now ≤ 1099511627776) :
    Calls Tryd.prog 42 #[nsV nodes, .int .i64 now] w fun e w' => ∃ g, e = .returned (.tuple #[.pointer (some ⟨g, 0, none⟩), .int .i64 0]) ∧ NewP w nodes [⟨now, nodes⟩] g w' := by
  have HS0 := Lib.hid ((Ms.nil w noB))
  have h0' : ¬ now < 0 := by omega
  have h1' : ¬ 1099511627776 < now := by omega
  go_enter Tryd.func42, Tryd.ntmps42
  go_wp2_with (first
    | (refine wpList_alloc_b rfl (some 2) rfl 24 (nsA nodes) (by kernel_rfl) ?_; intro g1 W1 hb hB hg; have HS1 := Lib.hid (HS0.out.new hb hB hg); clear hb hB hg HS0)
    | (refine wpList_load_at rfl 24 _ rfl (HS1.out.at_ 0 rfl) 4 (nsV nodes) rfl _ Tryd.underlying24 rfl (by kernel_rfl) (Nat.le_of_ble_eq_true rfl) rfl ?_)
    | (refine wpList_build_b rfl (some 16) rfl 113 1 (spA ⟨now, nodes⟩) (by kernel_rfl) ?_; intro g2 W2 hb hB hg; have HS2 := Lib.hid (HS1.out.newRow (n := 1) (size := 5) hb hB hg rfl (by decide)); clear hb hB hg HS1)
    | (refine wpList_alloc_b rfl (some 18) rfl 116 (pfA nodes (some ⟨g2, 0, none⟩) 1 [⟨now, nodes⟩]) (by kernel_rfl) ?_; intro g3 W3 hb hB hg; have HS3 := Lib.hid (HS2.out.new hb hB hg); clear hb hB hg HS2))
  go_ret2
  exact ⟨g3, rfl, some ⟨g2, 0, none⟩, 1, HS3.out.pfOf 2 1 rfl rfl (by decide)⟩
end Go.Proofs.YtkgphbjneaagoaaDoor
