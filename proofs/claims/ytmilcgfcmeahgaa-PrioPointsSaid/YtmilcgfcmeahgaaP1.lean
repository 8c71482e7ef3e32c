/- Prio: facts, weights; who is right. -/
import Derived.Test.YtmilcgfcmeahgaaPs
import Derived.Test.YtmilcgfcmeahgaaBs
set_option linter.unusedVariables false
namespace Go.Proofs.Ytmilcgfcmeahgaa
open Go.RowKit

structure Fa where
  id : Int
  sub : Int
  nod : Int
  prt : Int
  qos : Int
  shr : Int
structure We where
  age : Int
  siz : Int
  prt : Int
  qos : Int
  shr : Int
  mst : Int
abbrev fA (f : Fa) : Array Value := #[.int .i64 f.id, .int .i64 f.sub, .int .i64 f.nod, .int .i64 f.prt, .int .i64 f.qos, .int .i64 f.shr]
abbrev fV (f : Fa) : Value := .agg (fA f)
abbrev wA (w : We) : Array Value := #[.int .i64 w.age, .int .i64 w.siz, .int .i64 w.prt, .int .i64 w.qos, .int .i64 w.shr, .int .i64 w.mst]
abbrev wV (w : We) : Value := .agg (wA w)
abbrev z6 : Array Value := #[.int .i64 0, .int .i64 0, .int .i64 0, .int .i64 0, .int .i64 0, .int .i64 0]
def inB (n lo hi : Int) : Bool := decide (lo ≤ n) && decide (n ≤ hi)
def rightF (f : Fa) : Bool := inB f.prt 0 1000 && (inB f.qos 0 1000 && (inB f.shr 0 1000 && (inB f.id 1 1000000 && (inB f.sub 0 1099511627776 && inB f.nod 1 256))))
def mayW (w : We) (now : Int) : Bool := inB w.age 0 1000000 && (inB w.siz 0 1000000 && (inB w.prt 0 1000000 && (inB w.qos 0 1000000 && (inB w.shr 0 1000000 && (inB w.mst 1 1099511627776 && inB now 0 1099511627776)))))
theorem inB_lo {n lo hi : Int} (h : ¬ lo ≤ n) : inB n lo hi = false := by unfold inB; rw [decide_eq_false h]; rfl
theorem inB_hi {n lo hi : Int} (h : ¬ n ≤ hi) : inB n lo hi = false := by unfold inB; rw [decide_eq_false h, Bool.and_false]
theorem inB_yes {n lo hi : Int} (h1 : lo ≤ n) (h2 : n ≤ hi) : inB n lo hi = true := by unfold inB; rw [decide_eq_true h1, decide_eq_true h2]; rfl
theorem within_c (n lo hi : Int) (w : World) : Calls Try.prog 18 #[.int .i64 n, .int .i64 lo, .int .i64 hi] w fun e w' => e = .returned (.bool (inB n lo hi)) ∧ w = w' := by
  by_cases h1 : lo ≤ n
  · by_cases h2 : n ≤ hi
    · rw [inB_yes h1 h2]
      go_enter Try.func18, Try.ntmps18
      go_wp2; go_ret; exact ⟨rfl, rfl⟩
    · rw [inB_hi h2]
      go_enter Try.func18, Try.ntmps18
      go_wp2; go_ret; exact ⟨rfl, rfl⟩
  · rw [inB_lo h1]
    go_enter Try.func18, Try.ntmps18
    go_wp2; go_ret; exact ⟨rfl, rfl⟩
theorem rin_c (n lo hi : Int) (w : World) : Calls Try.prog 19 #[.int .i64 n, .int .i64 lo, .int .i64 hi] w fun e w' => e = .returned (.bool (inB n lo hi)) ∧ w = w' := by
  by_cases h1 : lo ≤ n
  · by_cases h2 : n ≤ hi
    · rw [inB_yes h1 h2]
      go_enter Try.func19, Try.ntmps19
      go_wp2; go_ret; exact ⟨rfl, rfl⟩
    · rw [inB_hi h2]
      go_enter Try.func19, Try.ntmps19
      go_wp2; go_ret; exact ⟨rfl, rfl⟩
  · rw [inB_lo h1]
    go_enter Try.func19, Try.ntmps19
    go_wp2; go_ret; exact ⟨rfl, rfl⟩
theorem facts_c (f : Fa) (w : World) : Calls Try.prog 8 #[fV f] w fun e w' => e = .returned (fV f) ∧ Below w.heap.size w w' := by
  go_enter Try.func8, Try.ntmps8
  have H0 := Lib.hid (Bs.nil w)
  go_wp2_with (first
    | (refine wpList_alloc_b rfl (some 1) rfl 23 (fA f) (by kernel_rfl) ?_; intro g1 W1 hb hB hg; have H1 := Lib.hid (H0.out.new hb hB hg); clear hb hB hg H0)
    | (refine wpList_alloc_b rfl (some 2) rfl 29 z6 (by kernel_rfl) ?_; intro g2 W2 hb hB hg; have H2 := Lib.hid (H1.out.new hb hB hg); obtain ⟨p1, p2, p3⟩ := H2.out.rules 0 rfl; clear hb hB hg H1)
    | (refine wpList_store_at rfl 29 _ _ rfl (H2.out.at_ 1 rfl) (fV f) rfl rfl (by kernel_rfl) (Nat.le_of_ble_eq_true rfl) (by kernel_rfl) ?_; intro W3 hB hP; have HB := Lib.hid (show Blk W3 g2 _ (fA f) from hB); have HL := Lib.hid (H2.out.put 1 rfl hB hP).below; clear hB hP H2 p1 p2 p3))
  exact post_cell rfl rfl HB.out Try.underlying29 rfl (by kernel_rfl) rfl ⟨rfl, HL.out⟩
theorem weights_c (f : We) (w : World) : Calls Try.prog 9 #[wV f] w fun e w' => e = .returned (wV f) ∧ Below w.heap.size w w' := by
  go_enter Try.func9, Try.ntmps9
  have H0 := Lib.hid (Bs.nil w)
  go_wp2_with (first
    | (refine wpList_alloc_b rfl (some 1) rfl 25 (wA f) (by kernel_rfl) ?_; intro g1 W1 hb hB hg; have H1 := Lib.hid (H0.out.new hb hB hg); clear hb hB hg H0)
    | (refine wpList_alloc_b rfl (some 2) rfl 31 z6 (by kernel_rfl) ?_; intro g2 W2 hb hB hg; have H2 := Lib.hid (H1.out.new hb hB hg); obtain ⟨p1, p2, p3⟩ := H2.out.rules 0 rfl; clear hb hB hg H1)
    | (refine wpList_store_at rfl 31 _ _ rfl (H2.out.at_ 1 rfl) (wV f) rfl rfl (by kernel_rfl) (Nat.le_of_ble_eq_true rfl) (by kernel_rfl) ?_; intro W3 hB hP; have HB := Lib.hid (show Blk W3 g2 _ (wA f) from hB); have HL := Lib.hid (H2.out.put 1 rfl hB hP).below; clear hB hP H2 p1 p2 p3))
  exact post_cell rfl rfl HB.out Try.underlying31 rfl (by kernel_rfl) rfl ⟨rfl, HL.out⟩
end Go.Proofs.Ytmilcgfcmeahgaa
