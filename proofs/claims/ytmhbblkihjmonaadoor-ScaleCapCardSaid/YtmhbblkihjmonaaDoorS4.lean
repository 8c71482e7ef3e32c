/- Scale: Decide, where the view is right. -/
import Derived.Test.YtmhbblkihjmonaaDoorS3
set_option linter.unusedVariables false
namespace Go.Proofs.YtmhbblkihjmonaaDoor
open Go.RowKit Go.Sort

/-- The view in its box, the two results' cells, the table. -/
abbrev decS (w : World) (v : Vw) : World → Prop := fun W => Blk W w.heap.size 47 (viewA v) ∧ Blk W (w.heap.size + 1) 24 z4 ∧ Blk W (w.heap.size + 1 + 1) 24 z4 ∧ TabW W ∧ Below w.heap.size w W
theorem decS_after {w W W' : World} {v : Vw} (h : decS w v W) (hb : Below W.heap.size W W') : decS w v W' := ⟨h.1.after hb, h.2.1.after hb, h.2.2.1.after hb, h.2.2.2.1.after hb, below_then h.2.2.2.2 h.2.2.2.2.size hb⟩
theorem decS_new {w : World} (v : Vw) (hT : TabW w) : decS w v (((w.alloc (.cells (viewA v) 47)).alloc (.cells z4 24)).alloc (.cells z4 24)) :=
  ⟨((Blk.new w 47 (viewA v)).alloc _).alloc _, (Blk.new' (by simp)).alloc _, Blk.new' (by simp), ((hT.alloc _).alloc _).alloc _, (((Below.refl w.heap.size w).alloc (by simp) _).alloc (by simp) _).alloc (by simp; omega) _⟩
theorem decS_four {w W : World} {v : Vw} {g : Nat} (h : decS w v W) (hg : w.heap.size + 1 + 1 < g) (a b c d : Value) (ht : TabW ((((W.setCell ⟨g, 0, none⟩ a).setCell ⟨g, 1, none⟩ b).setCell ⟨g, 2, none⟩ c).setCell ⟨g, 3, none⟩ d)) : decS w v ((((W.setCell ⟨g, 0, none⟩ a).setCell ⟨g, 1, none⟩ b).setCell ⟨g, 2, none⟩ c).setCell ⟨g, 3, none⟩ d) :=
  ⟨h.1.far4 (by omega) _ _ _ _, h.2.1.far4 (by omega) _ _ _ _, h.2.2.1.far4 (by omega) _ _ _ _, ht, below_four h.2.2.2.2 (by omega) _ _ _ _⟩

set_option maxHeartbeats 8000000 in
theorem decide_yes (v : Vw) (hr : rightB v = true) (w : World) (hT : TabW w) : Calls Tryd.prog 40 #[viewV v] w fun e w' => e = .returned (.tuple #[nsV (onS v), nsV (offS v), .int .i64 0]) ∧ Below w.heap.size w w' := by
  have hv := right_c v
  rw [hr] at hv
  have HV := Lib.hid hv
  have H0 := Lib.hid (decS_new v hT)
  have hlt0 := hT.lt
  clear hv hT
  have hmany := cnt_le v.pow
  have hbnd : 0 ≤ v.mn ∧ v.mn ≤ v.cp ∧ v.cp ≤ 256 ∧ 1 ≤ v.rt ∧ v.rt ≤ 1000000 := by
    simp only [rightB, Bool.and_eq_true, decide_eq_true_eq] at hr
    omega
  clear hr
  go_enter Tryd.func40, Tryd.ntmps40
  go_wp2_with (refine wpList_load_row rfl 47 _ rfl w.heap.size rfl 47 (viewA v) (0, 0) _ H0.out.1 Tryd.underlying47 rfl (by kernel_rfl) ?_)
  refine (HV.out _).mono ?_
  rintro e w1 ⟨rfl, hb⟩
  have H1 := Lib.hid (decS_after H0.out hb)
  obtain ⟨p1, p2, p3⟩ := H1.out.1.rules
  clear hb H0
  go_wp2_with fail
  refine (count_c v.pow _).mono ?_
  rintro e w2 ⟨rfl, hb⟩
  have H2 := Lib.hid (decS_after H1.out hb)
  clear hb H1 p1 p2
  have m1 : IntKind.i64.wrap (v.cp - (cnt v.pow : Nat)) = v.cp - (cnt v.pow : Nat) := by rw [IntKind.wrap_i64]; omega
  obtain ⟨k1, hk1⟩ : ∃ k1 : Int, k1 = if v.cp - (cnt v.pow : Nat) < v.rt then v.cp - (cnt v.pow : Nat) else v.rt := ⟨_, rfl⟩
  have m2 : (if v.cp - (cnt v.pow : Nat) < v.rt then v.cp - (cnt v.pow : Nat) else v.rt) = k1 := hk1.symm
  have hk1b : -9223372036854775808 ≤ k1 ∧ k1 ≤ 9223372036854775807 := by rw [hk1]; split <;> omega
  have o1 : on1S v = lowS (v.off &&& v.wnt) k1 := by unfold on1S; rw [m2]
  clear hk1
  go_wp2_with fail
  refine region_bl 13 14 (fun _ => .cells z4 24) (decS w v) (by kernel_rfl) (by kernel_rfl) (by decide) H2.out (fun i h1 h2 o ho a w => ?_) ?_
  · obtain rfl : i = 13 := by omega
    simp only [List.getElem?_toArray, List.getElem?_cons_succ, List.getElem?_cons_zero, Option.some.injEq] at ho
    subst ho
    refine ⟨rfl, ?_⟩
    go_simp
  clear H2
  intro W hS
  have hlt := hS.2.2.1.lt
  have r1 := cells_on hS.1.cell hS.1.lt
  have HS := Lib.hid hS
  clear hS
  simp only [List.take_succ_cons, List.take_zero, List.drop_succ_cons, List.drop_zero]
  repeat (refine wpG_step (fun K hK => ?_); go_simp; first | (refine hK _ ?_; clear hK K) | (apply Exists.intro; refine ⟨fun _ => ?_, hK _ ?_⟩; (first | exact calls_on (and_c _ _ _) | exact calls_on (lowest_c _ k1 hk1b _ (HS.out.2.2.2.1.after (below_regrown _ _ _)))); clear hK K))
  refine wpG_nil ?_
  intro g1 hg1 w4 hb hA
  rw [← o1]
  have bb : Blk w4 g1 24 z4 := laid_one hA
  obtain ⟨p1, p2, p3⟩ := bb.rules
  have hB1 : W.heap.size ≤ g1 := hg1.2
  have cc := bb.four (.int .u64 (wn (on1S v) 0 : Nat)) (.int .u64 (wn (on1S v) 1 : Nat)) (.int .u64 (wn (on1S v) 2 : Nat)) (.int .u64 (wn (on1S v) 3 : Nat))
  have kk := below_four hb hB1 (.int .u64 (wn (on1S v) 0 : Nat)) (.int .u64 (wn (on1S v) 1 : Nat)) (.int .u64 (wn (on1S v) 2 : Nat)) (.int .u64 (wn (on1S v) 3 : Nat))
  have H5 := Lib.hid (decS_after HS.out kk)
  have HO := Lib.hid cc
  have hg : w.heap.size + 1 + 1 < g1 := by omega
  obtain ⟨q1, q2, q3⟩ := cc.rules
  obtain ⟨s1, s2, s3⟩ := H5.out.1.rules
  clear hb hA bb hB1 cc kk HS r1 hg1 hlt o1
  have hn1 := cnt_le (on1S v)
  have d1 : IntKind.i64.wrap (v.rt - (cnt (on1S v) : Nat)) = v.rt - (cnt (on1S v) : Nat) := by rw [IntKind.wrap_i64]; omega
  have d2 : IntKind.i64.wrap (v.mn - (cnt v.pow : Nat)) = v.mn - (cnt v.pow : Nat) := by rw [IntKind.wrap_i64]; omega
  have d3 : IntKind.i64.wrap (v.mn - (cnt v.pow : Nat) - (cnt (on1S v) : Nat)) = v.mn - (cnt v.pow : Nat) - (cnt (on1S v) : Nat) := by rw [IntKind.wrap_i64]; omega
  obtain ⟨k2, hk2⟩ : ∃ k2 : Int, k2 = if v.mn - (cnt v.pow : Nat) - (cnt (on1S v) : Nat) < v.rt - (cnt (on1S v) : Nat) then v.mn - (cnt v.pow : Nat) - (cnt (on1S v) : Nat) else v.rt - (cnt (on1S v) : Nat) := ⟨_, rfl⟩
  have d4 : (if v.mn - (cnt v.pow : Nat) - (cnt (on1S v) : Nat) < v.rt - (cnt (on1S v) : Nat) then v.mn - (cnt v.pow : Nat) - (cnt (on1S v) : Nat) else v.rt - (cnt (on1S v) : Nat)) = k2 := hk2.symm
  have d4' : (if v.mn - (cnt v.pow : Nat) < v.rt then v.mn - (cnt v.pow : Nat) - (cnt (on1S v) : Nat) else v.rt - (cnt (on1S v) : Nat)) = k2 := by rw [← d4]; by_cases h : v.mn - (cnt v.pow : Nat) < v.rt <;> simp [h]
  have hk2b : -9223372036854775808 ≤ k2 ∧ k2 ≤ 9223372036854775807 := by rw [hk2]; split <;> omega
  have o2 : on2S v = lowS (notS v.off v.wnt) k2 := by unfold on2S; rw [d4]
  have o3 : onS v = on1S v ||| lowS (notS v.off v.wnt) k2 := by unfold onS; rw [o2]
  have O3 := Lib.hid o3
  clear hk2 o2 o3
  go_wp2_with fail
  refine (count_c (on1S v) _).mono ?_
  rintro e w5 ⟨rfl, hb⟩
  have H6 := Lib.hid (decS_after H5.out hb)
  have HO6 := Lib.hid (HO.out.after hb)
  clear hb H5 HO q1 q2 q3 s1 s2 s3 p1 p2 p3
  go_wp2_with fail
  refine region_bt 19 (fun W => decS w v W ∧ Blk W g1 24 (nsA (on1S v))) (by kernel_rfl) (by kernel_rfl) ⟨H6.out, HO6.out⟩ ?_
  clear H6 HO6
  rintro W2 ⟨hS, hO⟩
  have r1 := cells_on hS.1.cell hS.1.lt
  have r2 := cells_on hO.cell hO.lt
  have HS := Lib.hid hS
  have HO := Lib.hid hO
  clear hS hO
  simp only [List.take_succ_cons, List.take_zero, List.drop_succ_cons, List.drop_zero]
  repeat (quiet_step (first | with_reducible exact Calls.regrown_of (not_c _ _ _) | with_reducible exact Calls.regrown_of (or_c _ _ _) | with_reducible exact Calls.regrown_of (lowest_c _ k2 hk2b _ (HS.out.2.2.2.1.after (below_regrown _ _ _)))))
  refine wpQuiet_nil ?_
  intro w6 hb
  rw [← O3.out]
  have hS := decS_after HS.out hb
  have hO := HO.out.after hb
  have hO2 := hO.four (.int .u64 (wn (onS v) 0 : Nat)) (.int .u64 (wn (onS v) 1 : Nat)) (.int .u64 (wn (onS v) 2 : Nat)) (.int .u64 (wn (onS v) 3 : Nat))
  have hlt2 := hS.2.2.2.2.size
  have H7 := Lib.hid (decS_four hS hg (.int .u64 (wn (onS v) 0 : Nat)) (.int .u64 (wn (onS v) 1 : Nat)) (.int .u64 (wn (onS v) 2 : Nat)) (.int .u64 (wn (onS v) 3 : Nat)) (hS.2.2.2.1.below (below_four (Below.refl (w.heap.size + 1) w6) (by omega) _ _ _ _) (by omega)))
  have HO7 := Lib.hid hO2
  obtain ⟨q1, q2, q3⟩ := hO.rules
  obtain ⟨s1, s2, s3⟩ := H7.out.1.rules
  have q4 := hO2.cell
  clear hb HS HO r1 r2 hS hO hO2 O3
  go_wp2_with fail
  refine (count_c (onS v) _).mono ?_
  rintro e w7 ⟨rfl, hb⟩
  have H8 := Lib.hid (decS_after H7.out hb)
  have HO8 := Lib.hid (HO7.out.after hb)
  clear hb H7 HO7 q1 q2 q3 q4 s1 s2 s3 d1 d2 d3 d4 m1 m2
  have hn := cnt_le (onS v)
  have d5 : IntKind.i64.wrap ((cnt v.pow : Nat) + (cnt (onS v) : Nat)) = (cnt v.pow : Nat) + (cnt (onS v) : Nat) := by rw [IntKind.wrap_i64]; omega
  have d6 : IntKind.i64.wrap ((cnt v.pow : Nat) + (cnt (onS v) : Nat) - v.mn) = (cnt v.pow : Nat) + (cnt (onS v) : Nat) - v.mn := by rw [IntKind.wrap_i64]; omega
  go_wp2_with fail
  refine region_bt 11 (fun W => decS w v W ∧ Blk W g1 24 (nsA (onS v))) (by kernel_rfl) (by kernel_rfl) ⟨H8.out, HO8.out⟩ ?_
  clear H8 HO8
  rintro W3 ⟨hS, hO⟩
  have r1 := cells_on hS.1.cell hS.1.lt
  have r2 := cells_on hO.cell hO.lt
  have HS := Lib.hid hS
  have HO := Lib.hid hO
  clear hS hO
  simp only [List.take_succ_cons, List.take_zero, List.drop_succ_cons, List.drop_zero]
  repeat (quiet_step (first | with_reducible exact Calls.regrown_of (not_c _ _ _) | with_reducible exact Calls.regrown_of (highest_c _ _ (by omega) _ (HS.out.2.2.2.1.after (below_regrown _ _ _)))))
  refine wpQuiet_nil ?_
  intro w8 hb
  have hS := decS_after HS.out hb
  obtain ⟨s1, s2, s3⟩ := hS.2.1.rules
  obtain ⟨t1, t2, t3⟩ := hS.2.2.1.rules
  have H9 := Lib.hid hS
  have eo : highS (notS v.old v.wnt) ((cnt v.pow : Nat) + (cnt (onS v) : Nat) - v.mn) = offS v := rfl
  clear hb HS HO r1 r2 hS
  go_wp2_with fail
  exact post_cells_tmp rfl rfl rfl rfl ((H9.out.2.1.four _ _ _ _).far4 (by omega) _ _ _ _) ((H9.out.2.2.1.far4 (by omega) _ _ _ _).four _ _ _ _) Tryd.underlying24 rfl (by kernel_rfl) (by kernel_rfl) rfl ⟨rfl, below_four (below_four H9.out.2.2.2.2 (by omega) _ _ _ _) (by omega) _ _ _ _⟩
end Go.Proofs.YtmhbblkihjmonaaDoor
