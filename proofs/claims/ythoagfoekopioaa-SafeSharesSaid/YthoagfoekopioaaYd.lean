/- Safe: the document's number of 160 bits, moved; and down again. -/
import Derived.Test.YthoagfoekopioaaYc
set_option linter.unusedVariables false
namespace Go.Proofs.Ythoagfoekopioaa
open Go.RowKit

def movF (b : Big) (m i : Nat) : Nat → Bool := fun j => decide (m ≤ j) && decide (j < m + i) && b.getLsbD (j - m)
theorem movF_zero (b : Big) (m : Nat) : bigF zeroF = bigF (movF b m 0) := bigF_congr fun i hi => by
  unfold movF zeroF
  by_cases h : m ≤ i
  · simp; intro _ h2; omega
  · simp [h]
theorem movF_all (b : Big) (m : Nat) : bigF (movF b m 160) = bigA (b <<< m) := bigF_congr fun i hi => by
  unfold movF
  rw [BitVec.getLsbD_shiftLeft]
  by_cases h : m ≤ i
  · simp [h, hi, show i < m + 160 by omega, show ¬ i < m by omega]
  · simp [h, show i < m by omega]
theorem movF_no (b : Big) (m k : Nat) (h : b.getLsbD k = false ∨ 160 ≤ k + m) : bigF (movF b m k) = bigF (movF b m (k + 1)) := bigF_congr fun i hi => by
  unfold movF
  by_cases h1 : i = m + k
  · subst h1
    rcases h with h | h
    · simp [show m + k - m = k by omega, h]
    · omega
  · by_cases h2 : i < m + k
    · simp [h2, show i < m + (k + 1) by omega]
    · simp [h2, show ¬ i < m + (k + 1) by omega]
theorem movF_yes (b : Big) (m k : Nat) (h : b.getLsbD k = true) : (bigF (movF b m k)).setIfInBounds (k + m) (.bool true) = bigF (movF b m (k + 1)) := by
  rw [bigF_set]
  refine bigF_congr fun i hi => ?_
  unfold movF
  by_cases h1 : i = k + m
  · subst h1
    rw [if_pos rfl, show k + m - m = k by omega, h]
    simp [show k + m < m + (k + 1) by omega]
  · rw [if_neg h1]
    by_cases h2 : i < m + k
    · simp [h2, show i < m + (k + 1) by omega]
    · simp [h2, show ¬ i < m + (k + 1) by omega]

set_option maxRecDepth 100000 in
set_option maxHeartbeats 4000000 in
theorem moved_c (b : Big) (m : Nat) (hm : m < 64) (w : World) : Calls Try.prog 39 #[bigV b, .int .i64 m] w fun e w' => e = .returned (bigV (b <<< m)) ∧ Below w.heap.size w w' := by
  have HN := Lib.hid (movF_no b m)
  have HY := Lib.hid (movF_yes b m)
  go_enter Try.func39, Try.ntmps39
  have H0 := Lib.hid (Bs.nil w)
  go_wp2_with (first
    | (refine wpList_alloc_b rfl (some 2) rfl 53 (bigA b) (by kernel_rfl) ?_; intro g1 W1 hb hB hg; have H1 := Lib.hid (H0.out.new hb hB hg); clear hb hB hg H0)
    | (refine wpList_alloc_b rfl (some 4) rfl 53 (bigF zeroF) (by kernel_rfl) ?_; intro g2 W2 hb hB hg; have H2 := Lib.hid (H1.out.new hb hB hg); clear hb hB hg H1)
    | (refine wpList_buildTo rfl 53 _ rfl (some 7) rfl (bigF zeroF) (by kernel_rfl) ?_)
    | (refine wpList_alloc_b rfl (some 5) rfl 53 (bigF zeroF) (by kernel_rfl) ?_; intro g3 W3 hb hB hg; have H3 := Lib.hid (H2.out.new hb hB hg); clear hb hB hg H2)
    | (refine wpList_store_at rfl 53 _ _ rfl (H3.out.at_ 2 rfl) (.agg (bigF zeroF)) rfl rfl (by kernel_rfl) (by simp [Value.cells, bigF_size]) (bigF_one zeroF) ?_; intro W4 hB hP; rw [spl_whole] at hB; have H4 := Lib.hid (H3.out.put 2 rfl hB hP); clear hB hP H3))
  go_loopw [6] (fun i wr => ∃ k : Nat, k ≤ 160 ∧ i = .int .i64 k ∧ Bs w [⟨g1, 53, bigA b⟩, ⟨g2, 53, bigF zeroF⟩, ⟨g3, 53, bigF (movF b m k)⟩] wr) (fun i _ => 160 - (intOf i).toNat)
  case atStart => exact ⟨0, by omega, rfl, (movF_zero b m) ▸ H4.out⟩
  case round =>
    obtain ⟨k, hk, rfl, hT⟩ := hrel
    clear H4
    have H := Lib.hid hT
    clear hT
    by_cases hlt : k < 160
    · obtain ⟨p1, p2, p3⟩ := H.out.rules 0 rfl
      obtain ⟨q1, q2, q3⟩ := H.out.rules 2 rfl
      have hca := p1 k
      rw [bigF_get _ _ hlt] at hca
      have hf1 := q2 (k + m)
      have hn := HN.out k
      have hy := HY.out k
      clear p1 p2 q2
      have q1' := q1 (k + m)
      clear q1
      obtain ⟨x, hx⟩ : ∃ x, x = b.getLsbD k := ⟨_, rfl⟩
      rw [← hx] at hca hn hy
      clear hx
      have HN1 := Lib.hid hn
      have HY1 := Lib.hid hy
      clear hn hy
      cases x
      · go_wp2_with fail
        refine ⟨⟨k + 1, by omega, by simp, HN1.out (.inl rfl) ▸ H.out⟩, by simp [intOf]; omega⟩
      · by_cases hkm : k + m < 160
        · rw [bigF_get _ _ hkm] at q1'
          go_wp2_with fail
          refine ⟨⟨k + 1, by omega, by simp, H.out.set 2 (k + m) _ rfl (HY1.out rfl)⟩, by simp [intOf]; omega⟩
        · go_wp2_with fail
          refine ⟨⟨k + 1, by omega, by simp, HN1.out (.inr (by omega)) ▸ H.out⟩, by simp [intOf]; omega⟩
    · obtain rfl : k = 160 := by omega
      have hall := movF_all b m
      go_wp2_with (first
        | (refine wpList_load_at rfl 53 _ rfl (H.out.at_ 2 rfl) 160 (bigV (b <<< m)) rfl _ Try.underlying53 rfl (by kernel_rfl) (by rw [bigF_size]; decide) (by rw [big_whole, hall]) ?_)
        | (refine wpList_store_at rfl 53 _ _ rfl (H.out.at_ 1 rfl) (bigV (b <<< m)) rfl rfl (by kernel_rfl) (by simp [Value.cells, bigF_size]) (bigF_one _) ?_; intro W4 hB hP; rw [spl_whole] at hB; have HB4 := Lib.hid hB; have HL := Lib.hid (H.out.put 1 rfl hB hP).below; clear hB hP H))
      exact post_cell rfl rfl HB4.out Try.underlying53 rfl (by rw [bigF_size]; kernel_rfl) rfl ⟨rfl, HL.out⟩
end Go.Proofs.Ythoagfoekopioaa
