/- Scale: the lowest and the highest ones of a set. -/
import Derived.Test.YtmhbblkihjmonaaDoorS1
import Derived.Test.YtmhbblkihjmonaaDoorQl
set_option linter.unusedVariables false
namespace Go.Proofs.YtmhbblkihjmonaaDoor
open Go.RowKit Go.Sort

def lowS (s : NS) (n : Int) : NS := ofL ((lst s).take n.toNat)
def highS (s : NS) (n : Int) : NS := notS s (lowS s (cnt s - (if n < 0 then 0 else n)))
theorem low_first (s : NS) (n m : Int) (hm : m = (if (cnt s : Int) < (if n < 0 then 0 else n) then (cnt s : Int) else (if n < 0 then 0 else n))) : firstS s m = lowS s n := by
  have h0 : 0 ≤ m ∧ m ≤ cnt s := by rw [hm]; split <;> split <;> omega
  unfold firstS lowS
  rw [if_pos h0]
  by_cases h : (cnt s : Int) < (if n < 0 then 0 else n)
  · rw [if_pos h] at hm
    have h1 : cnt s ≤ n.toNat := by
      split at h <;> omega
    rw [hm, List.take_of_length_le (by rw [lst_length]; omega), List.take_of_length_le (by rw [lst_length]; exact h1)]
  · rw [if_neg h] at hm
    congr 2
    split at hm <;> omega
theorem keepTwoN {w W w1 : World} {a b n B : Nat} {P Q : Nat → Option Value} (h : (∀ o, W.cell? ⟨a, o, none⟩ = P o) ∧ (∀ o, W.cell? ⟨b, o, none⟩ = Q o) ∧ n ≤ W.heap.size ∧ TabW W ∧ Below B w W) (hB : Below n W w1) (ha : a < n) (hb : b < n) (hn : B ≤ n) (hg : 0 < n) :
    (∀ o, w1.cell? ⟨a, o, none⟩ = P o) ∧ (∀ o, w1.cell? ⟨b, o, none⟩ = Q o) ∧ n ≤ w1.heap.size ∧ TabW w1 ∧ Below B w w1 :=
  ⟨fun o => (hB.cell (p := ⟨a, o, none⟩) ha).trans (h.1 o), fun o => (hB.cell (p := ⟨b, o, none⟩) hb).trans (h.2.1 o), Nat.le_trans h.2.2.1 hB.size, h.2.2.2.1.below hB hg,
    h.2.2.2.2.trans (hB.mono hn)⟩
theorem below_swap1 {n : Nat} {w1 : World} (h : n ≤ w1.heap.size) (a a' : Obj) : Below n (w1.alloc a) (w1.alloc a') := by
  have h1 := (Below.refl n w1).alloc h a
  have h2 := (Below.refl n w1).alloc h a'
  exact ⟨h2.os.trans h1.os.symm, h2.tape.trans h1.tape.symm, h2.output.trans h1.output.symm, by simp, fun i hi => (h2.block i hi).trans (h1.block i hi).symm⟩
set_option maxHeartbeats 4000000 in
theorem lowest_c (s : NS) (n : Int) (hn : -9223372036854775808 ≤ n ∧ n ≤ 9223372036854775807) (w : World) (hT : TabW w) : Calls Tryd.prog 62 #[nsV s, .int .i64 n] w fun e w' => e = .returned (nsV (lowS s n)) ∧ Below w.heap.size w w' := by
  have HT := Lib.hid hT
  have hlt0 := hT.lt
  clear hT
  go_enter Tryd.func62, Tryd.ntmps62
  go_wp2_with fail
  obtain ⟨mm, hmm⟩ : ∃ mm : Int, mm = if n < 0 then 0 else n := ⟨_, rfl⟩
  obtain ⟨m, hm⟩ : ∃ m : Int, m = if (cnt s : Int) < mm then (cnt s : Int) else mm := ⟨_, rfl⟩
  have q1 : (if n < 0 then 0 else n) = mm := hmm.symm
  have q2 : (if (cnt s : Int) < mm then (cnt s : Int) else mm) = m := hm.symm
  have hlow := low_first s n m (by rw [hm, hmm])
  clear hmm hm
  have hf : ∀ w, TabW w → Calls Tryd.prog 33 #[nsV s, .int .i64 m] w fun e w' => e = .returned (.tuple #[nsV (lowS s n), .bool (firstOk s m)]) ∧ Below w.heap.size w w' := fun w hT => by rw [← hlow]; exact first_c s m w hT
  refine region_bl_lend 11 9 10 11 (fun _ => .cells #[.int .u64 0, .int .u64 0, .int .u64 0, .int .u64 0] 24) (fun W2 => (∀ o, W2.cell? ⟨w.heap.size, o, none⟩ = (nsA s)[o]?) ∧ Blk W2 (w.heap.size + 1) 24 #[.int .u64 0, .int .u64 0, .int .u64 0, .int .u64 0] ∧ TabW W2 ∧ Below w.heap.size w W2)
    (by kernel_rfl) rfl rfl rfl rfl (by decide) (by kernel_rfl) (fun _ _ _ _ h => h) (by kernel_rfl) (by kernel_rfl) (by kernel_rfl) (by decide) ?_ (fun i h1 h2 o ho a w => ?_) ?_
  · exact ⟨((Blk.new' (t := 24) rfl).alloc _).cell, Blk.new' (by simp), (HT.out.alloc _).alloc _, ((Below.refl _ _).alloc (by simp) _).alloc (by simp) _⟩
  · obtain rfl : i = 10 := by omega
    simp only [List.set, List.getElem?_toArray, List.getElem?_cons_succ, List.getElem?_cons_zero, Option.some.injEq] at ho
    subst ho
    refine ⟨rfl, ?_⟩
    go_simp
  clear HT hlow
  rintro W ⟨h1, h2, h4, h5⟩
  have hlt := h2.lt
  have r1 := cells_on h1 (by omega)
  have H2 := Lib.hid h2
  have H4 := Lib.hid h4
  have H5 := Lib.hid h5
  have HF := Lib.hid hf
  clear h1 h2 h4 h5 hf
  simp only [List.set, List.take_succ_cons, List.take_zero, List.drop_succ_cons, List.drop_zero]
  repeat (refine wpG_step (fun K hK => ?_); go_simp; first | (refine hK _ ?_; clear hK K) | (apply Exists.intro; refine ⟨fun _ => ?_, hK _ ?_⟩; (first | exact calls_on (count_c _ _) | exact calls_on (HF.out _ (H4.out.after (below_regrown _ _ _)))); clear hK K))
  refine wpG_nil ?_
  intro g1 hg1 w4 hb hA
  have bb : Blk w4 g1 24 #[.int .u64 0, .int .u64 0, .int .u64 0, .int .u64 0] := laid_one hA
  obtain ⟨p1, p2, p3⟩ := bb.rules
  have hB1 : W.heap.size ≤ g1 := hg1.2
  have cc := bb.four (.int .u64 (wn (lowS s n) 0 : Nat)) (.int .u64 (wn (lowS s n) 1 : Nat)) (.int .u64 (wn (lowS s n) 2 : Nat)) (.int .u64 (wn (lowS s n) 3 : Nat))
  have dd := (H2.out.after hb).far4 (k := g1) (by omega) (.int .u64 (wn (lowS s n) 0 : Nat)) (.int .u64 (wn (lowS s n) 1 : Nat)) (.int .u64 (wn (lowS s n) 2 : Nat)) (.int .u64 (wn (lowS s n) 3 : Nat))
  have kk := below_four hb hB1 (.int .u64 (wn (lowS s n) 0 : Nat)) (.int .u64 (wn (lowS s n) 1 : Nat)) (.int .u64 (wn (lowS s n) 2 : Nat)) (.int .u64 (wn (lowS s n) 3 : Nat))
  have HL5 := Lib.hid (below_then H5.out (by omega) kk)
  obtain ⟨s1, s2, s3⟩ := cc.rules
  have HD := Lib.hid dd
  obtain ⟨t1, t2, t3⟩ := dd.rules
  clear bb hA hg1 cc kk hb H2 H4 H5 r1 dd
  go_wp2_with fail
  exact post_cell rfl rfl (HD.out.four _ _ _ _) Tryd.underlying24 rfl (by kernel_rfl) rfl ⟨rfl, below_four HL5.out (by omega) _ _ _ _⟩

set_option maxHeartbeats 4000000 in
theorem highest_c (s : NS) (n : Int) (hn : -9223372036854775808 ≤ n ∧ n ≤ 9223372036854775807) (w : World) (hT : TabW w) : Calls Tryd.prog 63 #[nsV s, .int .i64 n] w fun e w' => e = .returned (nsV (highS s n)) ∧ Below w.heap.size w w' := by
  have HT := Lib.hid hT
  clear hT
  obtain ⟨mm, hmm⟩ : ∃ mm : Int, mm = if n < 0 then 0 else n := ⟨_, rfl⟩
  have q1 : (if n < 0 then 0 else n) = mm := hmm.symm
  have hm2 : 0 ≤ mm ∧ mm ≤ 9223372036854775807 := by rw [hmm]; split <;> omega
  have hc := cnt_le s
  have q2 : IntKind.i64.wrap ((cnt s : Nat) - mm) = (cnt s : Nat) - mm := by rw [IntKind.wrap_i64]; omega
  have e : highS s n = notS s (lowS s ((cnt s : Nat) - mm)) := by unfold highS; rw [q1]
  rw [e]
  clear hmm e
  go_enter Tryd.func63, Tryd.ntmps63
  go_wp2_with fail
  refine region_bt 9 (fun W2 => (∀ o, W2.cell? ⟨w.heap.size, o, none⟩ = (nsA s)[o]?) ∧ Blk W2 (w.heap.size + 1) 24 #[.int .u64 0, .int .u64 0, .int .u64 0, .int .u64 0] ∧ TabW W2 ∧ Below w.heap.size w W2) (by kernel_rfl) (by kernel_rfl) ?_ ?_
  · exact ⟨((Blk.new' (t := 24) rfl).alloc _).cell, Blk.new' (by simp), (HT.out.alloc _).alloc _, ((Below.refl _ _).alloc (by simp) _).alloc (by simp) _⟩
  clear HT
  rintro W ⟨h1, h2, h4, h5⟩
  have hlt := h2.lt
  have r1 := cells_on h1 (by omega)
  have H2 := Lib.hid h2
  have H4 := Lib.hid h4
  have H5 := Lib.hid h5
  clear h1 h2 h4 h5
  simp only [List.take_succ_cons, List.take_zero, List.drop_succ_cons, List.drop_zero]
  repeat (quiet_step (first | exact Calls.regrown_of (count_c _ _) | exact Calls.regrown_of (not_c _ _ _) | exact Calls.regrown_of (lowest_c s _ (by omega) _ (H4.out.after (below_regrown _ _ _)))))
  refine wpQuiet_nil ?_
  intro w4 hb
  have dd := H2.out.after hb
  have HD := Lib.hid dd
  obtain ⟨t1, t2, t3⟩ := dd.rules
  have HL5 := Lib.hid (below_then H5.out (by omega) hb)
  clear r1 H2 H4 H5 dd hb
  go_wp2_with fail
  exact post_cell rfl rfl (HD.out.four _ _ _ _) Tryd.underlying24 rfl (by kernel_rfl) rfl ⟨rfl, below_four HL5.out (by omega) _ _ _ _⟩
end Go.Proofs.YtmhbblkihjmonaaDoor
