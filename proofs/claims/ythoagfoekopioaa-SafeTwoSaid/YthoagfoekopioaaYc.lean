/- Safe: the document's sum of two numbers of 160 bits. -/
import Derived.Test.YthoagfoekopioaaYb
import Derived.BigQuiet
set_option linter.unusedVariables false
namespace Go.Proofs.Ythoagfoekopioaa
open Go.RowKit

def plusF (a b : Big) (i : Nat) : Nat → Bool := fun j => if j < i then (a + b).getLsbD j else a.getLsbD j
theorem plusF_zero (a b : Big) : bigF (plusF a b 0) = bigA a := bigF_congr fun i hi => by simp [plusF]
theorem plusF_all (a b : Big) : bigF (plusF a b 160) = bigA (a + b) := bigF_congr fun i hi => by simp [plusF, hi]
theorem plusF_here (a b : Big) (k : Nat) : plusF a b k k = a.getLsbD k := by simp [plusF]
theorem plusF_succ (a b : Big) (k : Nat) (hk : k < 160) (v : Bool) (hv : v = (a.getLsbD k ^^ (b.getLsbD k ^^ BitVec.carry k a b false))) : (bigF (plusF a b k)).setIfInBounds k (.bool v) = bigF (plusF a b (k + 1)) := by
  rw [bigF_set]
  refine bigF_congr fun i hi => ?_
  unfold plusF
  by_cases h : i = k
  · subst h; rw [if_pos rfl, if_pos (by omega), BitVec.getLsbD_add hi, hv]
  · rw [if_neg h]
    by_cases h2 : i < k
    · rw [if_pos h2, if_pos (by omega)]
    · rw [if_neg h2, if_neg (by omega)]

set_option maxRecDepth 100000 in
set_option maxHeartbeats 4000000 in
theorem plus_c (a b : Big) (w : World) : Calls Try.prog 38 #[bigV a, bigV b] w fun e w' => e = .returned (bigV (a + b)) ∧ Below w.heap.size w w' := by
  have HF := Lib.hid (plusF_succ a b)
  have HC := Lib.hid (fun k => BitVec.carry_succ k a b false)
  go_enter Try.func38, Try.ntmps38
  have H0 := Lib.hid (Bs.nil w)
  go_wp2_with (first
    | (refine wpList_alloc_b rfl (some 2) rfl 53 (bigA a) (by kernel_rfl) ?_; intro g1 W1 hb hB hg; have H1 := Lib.hid (H0.out.new hb hB hg); clear hb hB hg H0)
    | (refine wpList_alloc_b rfl (some 3) rfl 53 (bigA b) (by kernel_rfl) ?_; intro g2 W2 hb hB hg; have H2 := Lib.hid (H1.out.new hb hB hg); clear hb hB hg H1)
    | (refine wpList_alloc_b rfl (some 4) rfl 53 (bigF zeroF) (by kernel_rfl) ?_; intro g3 W3 hb hB hg; have H3 := Lib.hid (H2.out.new hb hB hg); clear hb hB hg H2))
  go_loopw [5, 6] (fun c i wr => ∃ k : Nat, k ≤ 160 ∧ c = .bool (BitVec.carry k a b false) ∧ i = .int .i64 k ∧ Bs w [⟨g1, 53, bigF (plusF a b k)⟩, ⟨g2, 53, bigA b⟩, ⟨g3, 53, bigF zeroF⟩] wr) (fun _ i _ => 160 - (intOf i).toNat)
  case atStart => exact ⟨0, by omega, by simp [BitVec.carry, Nat.mod_one], rfl, (plusF_zero a b).symm ▸ H3.out⟩
  case round =>
    obtain ⟨k, hk, rfl, rfl, hT⟩ := hrel
    clear H3
    have H := Lib.hid hT
    clear hT
    by_cases hlt : k < 160
    · obtain ⟨p1, p2, p3⟩ := H.out.rules 0 rfl
      obtain ⟨q1, q2, q3⟩ := H.out.rules 1 rfl
      have hca := p1 k
      have hcb := q1 k
      rw [bigF_get _ _ hlt] at hca hcb
      rw [plusF_here] at hca
      have hf1 := p2 k
      have hf := HF.out k hlt
      have hc := HC.out k
      clear p1 q1 p2 q2
      obtain ⟨x, hx⟩ : ∃ x, x = a.getLsbD k := ⟨_, rfl⟩
      obtain ⟨y, hy⟩ : ∃ y, y = b.getLsbD k := ⟨_, rfl⟩
      obtain ⟨c, hcc⟩ : ∃ c, c = BitVec.carry k a b false := ⟨_, rfl⟩
      rw [← hx] at hca hf hc
      rw [← hy] at hcb hf hc
      rw [← hcc] at hf hc
      rw [← hcc]
      clear hx hy hcc
      have HF1 := Lib.hid hf
      have HC1 := Lib.hid hc
      clear hf hc
      cases x <;> cases y <;> cases c
      all_goals
        go_wp2_with fail
        go_quiet (fail)
        go_wp2_with fail
        refine ⟨⟨k + 1, by omega, by rw [HC1.out]; rfl, by simp, (H.out.drewN nq).set 0 k _ rfl (HF1.out _ rfl)⟩, by simp [intOf]; omega⟩
    · obtain rfl : k = 160 := by omega
      have hall := plusF_all a b
      go_wp2_with (first
        | (refine wpList_load_at rfl 53 _ rfl (H.out.at_ 0 rfl) 160 (bigV (a + b)) rfl _ Try.underlying53 rfl (by kernel_rfl) (by rw [bigF_size]; decide) (by rw [big_whole, hall]) ?_)
        | (refine wpList_store_at rfl 53 _ _ rfl (H.out.at_ 2 rfl) (bigV (a + b)) rfl rfl (by kernel_rfl) (by simp [Value.cells, bigF_size]) (bigF_one _) ?_; intro W4 hB hP; rw [spl_whole] at hB; have HB4 := Lib.hid hB; have HL := Lib.hid (H.out.put 2 rfl hB hP).below; clear hB hP H))
      exact post_cell rfl rfl HB4.out Try.underlying53 rfl (by rw [bigF_size]; kernel_rfl) rfl ⟨rfl, HL.out⟩
end Go.Proofs.Ythoagfoekopioaa
