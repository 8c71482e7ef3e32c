/- Safe: the document's product. -/
import Derived.Test.YthoagfoekopioaaYd
import Derived.Test.YthoagfoekopioaaQt
set_option linter.unusedVariables false
namespace Go.Proofs.Ythoagfoekopioaa
open Go.RowKit Go.Sort

/-- A load of an aggregate in a region that draws its order and makes memory: by law. -/
theorem wpQuiet_load_b {P : Program} {ops : Array Oper} {W : World} {Q : Act → Prop} {rest : List Oper} {o : Oper} {a : Act} (hw : Region.wanted o (yielded ops a.tmps) = true) (ty : TypeId) (x : Operand) (ho : o.op = .load ty x)
    {g k : Nat} {t : TypeId} {cs : Array Value} (hB : Blk W g t cs) (n : Nat) (v : Value) (hx : a.eval x = .pointer (some ⟨g, k, none⟩)) (d : TypeDesc)
    (hu : P.underlying ty = some d) (hd : (match d with | .struct _ | .array _ _ => true | _ => false) = true) (hi : (P.info? ty).map (·.size) = some n) (hn : k + n ≤ cs.size) (hv : Value.agg ((cs.toList.drop k).take n).toArray = v)
    (h : wpQuiet P ops (laidOn W) Q rest (a.put o.dst v)) : wpQuiet P ops (laidOn W) Q (o :: rest) a :=
  wpQuiet_step fun K hK => by
    subst hv
    rw [if_pos hw]
    refine ⟨_, fun w hw => ?_, hK _ h⟩
    obtain ⟨p, rfl⟩ := hw
    have hB' : Blk (grow (redrawn W p.d) p.os) g t cs := hB.after (below_regrown _ _ _)
    unfold Oper.quietAt execOp
    simp only [ho, hx, Instr.loadAt, Instr.sureAddr, Sem.run_bind, Sem.run_pure, Result.andThen_ok, run_loadVar_at _ g k t ty cs n d hB' hn hu hd hi]
    exact ⟨rfl, rfl⟩

abbrev ofB (n : Nat) : Big := BitVec.ofNat 160 n
theorem times_step (x y k : Nat) (h : y.testBit k = true) : ofB (x * (y % 2 ^ k)) + (ofB x) <<< k = ofB (x * (y % 2 ^ (k + 1))) := by
  have h1 : y % 2 ^ (k + 1) = y % 2 ^ k + 2 ^ k := by
    rw [Nat.mod_pow_succ]
    have : y / 2 ^ k % 2 = 1 := by rw [Nat.testBit_eq_decide_div_mod_eq] at h; simpa using h
    rw [this, Nat.mul_one]
  rw [h1, Nat.mul_add]
  apply BitVec.eq_of_toNat_eq
  simp only [BitVec.toNat_add, BitVec.toNat_shiftLeft, BitVec.toNat_ofNat, Nat.shiftLeft_eq]
  simp [Nat.add_mod, Nat.mul_mod]
theorem times_skip (x y k : Nat) (h : y.testBit k = false) : ofB (x * (y % 2 ^ k)) = ofB (x * (y % 2 ^ (k + 1))) := by
  have h1 : y % 2 ^ (k + 1) = y % 2 ^ k := by
    rw [Nat.mod_pow_succ]
    have : y / 2 ^ k % 2 = 0 := by rw [Nat.testBit_eq_decide_div_mod_eq] at h; have := Nat.mod_two_eq_zero_or_one (y / 2 ^ k); simp at h; omega
    rw [this, Nat.mul_zero, Nat.add_zero]
  rw [h1]
theorem ofB_bit (y k : Nat) (h : k < 160) : (ofB y).getLsbD k = y.testBit k := by rw [BitVec.getLsbD_ofNat, decide_eq_true h, Bool.true_and]
theorem times_zero (x y : Nat) : bigF zeroF = bigA (ofB (x * (y % 2 ^ 0))) := bigF_congr fun i hi => by simp [zeroF, Nat.mod_one]

set_option maxRecDepth 100000 in
set_option maxHeartbeats 4000000 in
theorem times_c (x y : Nat) (hx : x < 18446744073709551616) (hy : y < 18446744073709551616) (w : World) : Calls Try.prog 34 #[.int .u64 (x : Nat), .int .u64 (y : Nat)] w fun e w' => e = .returned (bigV (ofB (x * y))) ∧ Below w.heap.size w w' := by
  have HX := Lib.hid hx
  have HY := Lib.hid hy
  have HT := Lib.hid (times_step x y)
  have HN := Lib.hid (times_skip x y)
  go_enter Try.func34, Try.ntmps34
  have H0 := Lib.hid (Bs.nil w)
  go_wp2_with (first
    | (refine wpList_alloc_b rfl (some 4) rfl 53 (bigF zeroF) (by kernel_rfl) ?_; intro g1 W1 hb hB hg; have H1 := Lib.hid (H0.out.new hb hB hg); clear hb hB hg H0)
    | (refine wpList_buildTo rfl 53 _ rfl (some 9) rfl (bigF zeroF) (by kernel_rfl) ?_)
    | (refine wpList_alloc_b rfl (some 5) rfl 53 (bigF zeroF) (by kernel_rfl) ?_; intro g2 W2 hb hB hg; have H2 := Lib.hid (H1.out.new hb hB hg); clear hb hB hg H1)
    | (refine wpList_store_at rfl 53 _ _ rfl (H2.out.at_ 1 rfl) (.agg (bigF zeroF)) rfl rfl (by kernel_rfl) (by simp [Value.cells, bigF_size]) (bigF_one zeroF) ?_; intro W3 hB hP; rw [spl_whole] at hB; have H3 := Lib.hid (H2.out.put 1 rfl hB hP); clear hB hP H2))
  refine (bof_c x HX.out _).mono ?_
  rintro e W4 ⟨rfl, hb⟩
  have H4 := Lib.hid (H3.out.after hb)
  clear hb H3
  go_wp2_with fail
  refine (bof_c y HY.out _).mono ?_
  rintro e W5 ⟨rfl, hb⟩
  have H5 := Lib.hid (H4.out.after hb)
  clear hb H4
  go_wp2_with (first
    | (refine wpList_alloc_b rfl (some 6) rfl 53 (bigF zeroF) (by kernel_rfl) ?_; intro g3 W6 hb hB hg; have H6 := Lib.hid (H5.out.new hb hB hg); clear hb hB hg H5)
    | (refine wpList_alloc_b rfl (some 7) rfl 53 (bigF zeroF) (by kernel_rfl) ?_; intro g4 W7 hb hB hg; have H7 := Lib.hid (H6.out.new hb hB hg); clear hb hB hg H6)
    | (refine wpList_store_at rfl 53 _ _ rfl (H7.out.at_ 2 rfl) (bigV (ofB x)) rfl rfl (by kernel_rfl) (by simp [Value.cells, bigF_size]) (bigF_one _) ?_; intro W8 hB hP; rw [spl_whole] at hB; have H8 := Lib.hid (H7.out.put 2 rfl hB hP); clear hB hP H7)
    | (refine wpList_store_at rfl 53 _ _ rfl (H8.out.at_ 3 rfl) (bigV (ofB y)) rfl rfl (by kernel_rfl) (by simp [Value.cells, bigF_size]) (bigF_one _) ?_; intro W9 hB hP; rw [spl_whole] at hB; have H9 := Lib.hid (H8.out.put 3 rfl hB hP); clear hB hP H8))
  go_loopw [8] (fun i wr => ∃ k : Nat, k ≤ 64 ∧ i = .int .i64 k ∧ Bs w [⟨g1, 53, bigF zeroF⟩, ⟨g2, 53, bigA (ofB (x * (y % 2 ^ k)))⟩, ⟨g3, 53, bigA (ofB x)⟩, ⟨g4, 53, bigA (ofB y)⟩] wr) (fun i _ => 64 - (intOf i).toNat)
  case atStart => exact ⟨0, by omega, rfl, (times_zero x y) ▸ H9.out⟩
  case round =>
    obtain ⟨k, hk, rfl, hT⟩ := hrel
    clear H9
    have H := Lib.hid hT
    clear hT
    by_cases hlt : k < 64
    · obtain ⟨p1, p2, p3⟩ := H.out.rules 3 rfl
      have hca := p1 k
      rw [bigF_get _ _ (by omega), ofB_bit y k (by omega)] at hca
      clear p1 p2 hx hy
      have hn := HN.out k
      have hy := HT.out k
      obtain ⟨b, hb⟩ : ∃ b, b = y.testBit k := ⟨_, rfl⟩
      rw [← hb] at hca hn hy
      clear hb
      have HN1 := Lib.hid hn
      have HY1 := Lib.hid hy
      clear hn hy
      cases b
      · go_wp2_with fail
        refine ⟨⟨k + 1, by omega, by simp, HN1.out rfl ▸ H.out⟩, by simp [intOf]; omega⟩
      · go_wp2_with fail
        refine region_bt 5 (Bs w [⟨g1, 53, bigF zeroF⟩, ⟨g2, 53, bigA (ofB (x * (y % 2 ^ k)))⟩, ⟨g3, 53, bigA (ofB x)⟩, ⟨g4, 53, bigA (ofB y)⟩]) (by kernel_rfl) (by kernel_rfl) H.out ?_
        clear H p3 hca
        intro W hS
        have HS := Lib.hid hS
        clear hS
        simp only [List.take_succ_cons, List.take_zero, List.drop_succ_cons, List.drop_zero]
        refine wpQuiet_load_b (by kernel_rfl) 53 _ rfl (HS.out.at_ 1 rfl) 160 (bigV (ofB (x * (y % 2 ^ k)))) rfl _ Try.underlying53 rfl (by kernel_rfl) (by rw [bigF_size]; decide) (big_whole _) ?_
        refine wpQuiet_load_b (by kernel_rfl) 53 _ rfl (HS.out.at_ 2 rfl) 160 (bigV (ofB x)) rfl _ Try.underlying53 rfl (by kernel_rfl) (by rw [bigF_size]; decide) (big_whole _) ?_
        repeat (quiet_step (first | with_reducible exact Calls.regrown_of (moved_c _ _ (by omega) _) | with_reducible exact Calls.regrown_of (plus_c _ _ _)))
        refine wpQuiet_nil ?_
        intro w1 hb
        have H1 := Lib.hid (HS.out.after hb)
        clear hb HS
        refine wpList_store_at rfl 53 _ _ rfl (H1.out.at_ 1 rfl) (bigV (ofB (x * (y % 2 ^ k)) + ofB x <<< k)) rfl rfl (by kernel_rfl) (by simp [Value.cells, bigF_size]) (bigF_one _) ?_
        intro w2 hB hP
        rw [spl_whole, HY1.out (by simp)] at hB
        have H2 := Lib.hid (H1.out.put 1 rfl hB hP)
        clear hB hP H1
        go_wp2_with fail
        refine ⟨⟨k + 1, by omega, by simp, H2.out⟩, by simp [intOf]; omega⟩
    · obtain rfl : k = 64 := by omega
      have hall : y % 2 ^ 64 = y := Nat.mod_eq_of_lt HY.out
      rw [hall] at H
      go_wp2_with (first
        | (refine wpList_load_at rfl 53 _ rfl (H.out.at_ 1 rfl) 160 (bigV (ofB (x * y))) rfl _ Try.underlying53 rfl (by kernel_rfl) (by rw [bigF_size]; decide) (big_whole _) ?_)
        | (refine wpList_store_at rfl 53 _ _ rfl (H.out.at_ 0 rfl) (bigV (ofB (x * y))) rfl rfl (by kernel_rfl) (by simp [Value.cells, bigF_size]) (bigF_one _) ?_; intro W4 hB hP; rw [spl_whole] at hB; have HB4 := Lib.hid hB; have HL := Lib.hid (H.out.put 0 rfl hB hP).below; clear hB hP H))
      exact post_cell rfl rfl HB4.out Try.underlying53 rfl (by rw [bigF_size]; kernel_rfl) rfl ⟨rfl, HL.out⟩
end Go.Proofs.Ythoagfoekopioaa
