/- Prio: who is right, as the package says. -/
import Derived.Test.YtmilcgfcmeahgaaP1
set_option linter.unusedVariables false
set_option linter.unusedSimpArgs false
namespace Go.Proofs.Ytmilcgfcmeahgaa
open Go.RowKit

set_option maxRecDepth 100000 in
set_option maxHeartbeats 4000000 in
theorem right_c (f : Fa) (w : World) : Calls Try.prog 11 #[fV f] w fun e w' => e = .returned (.bool (rightF f)) ∧ Below w.heap.size w w' := by
  go_enter Try.func11, Try.ntmps11
  have H0 := Lib.hid (Bs.nil w)
  go_wp2_with (first
    | (refine wpList_alloc_b rfl (some 1) rfl 29 (fA f) (by kernel_rfl) ?_; intro g1 W1 hb hB hg; have H1 := Lib.hid (H0.out.new hb hB hg); obtain ⟨p1, p2, p3⟩ := H1.out.rules 0 rfl; clear hb hB hg H0))
  have H2 := Lib.hid (H1.out.alloc 3 #[.int .i64 f.prt, .int .i64 f.qos, .int .i64 f.shr])
  clear H1 p1 p2 p3
  obtain ⟨g2, hg2⟩ : ∃ g2, g2 = W1.heap.size := ⟨_, rfl⟩
  rw [← hg2] at H2
  rw [← hg2]
  obtain ⟨W2, hW2⟩ : ∃ W2, W2 = W1.alloc (.cells #[.int .i64 f.prt, .int .i64 f.qos, .int .i64 f.shr] 3) := ⟨_, rfl⟩
  rw [← hW2] at H2
  rw [← hW2]
  clear hW2 hg2
  obtain ⟨p1, p2, p3⟩ := H2.out.rules 0 rfl
  obtain ⟨q1, q2, q3⟩ := H2.out.rules 1 rfl
  go_loop [4, 13] (fun x i => ∃ k : Nat, k ≤ 3 ∧ i = .int .i64 k ∧ (1 ≤ k → inB f.prt 0 1000 = true) ∧ (2 ≤ k → inB f.qos 0 1000 = true) ∧ (3 ≤ k → inB f.shr 0 1000 = true)) (fun _ i => 3 - (intOf i).toNat)
  case atStart => exact ⟨0, by omega, rfl, by omega, by omega, by omega⟩
  case round =>
    obtain ⟨k, hk, rfl, o0, o1, o2⟩ := hrel
    match k, hk with
    | 0, _ =>
      clear p1 p2
      go_wp2_with fail
      refine (within_c (f.prt) 0 1000 _).mono ?_
      rintro e w' ⟨rfl, rfl⟩
      cases hi : inB (f.prt) 0 1000
      · have e1 : (rightF f) = false := by unfold rightF; rw [hi]; simp
        have E1 := Lib.hid e1
        clear e1 o0 o1 o2
        go_wp2
        go_ret
        exact ⟨by rw [E1.out]; rfl, H2.out.below⟩
      · have HO := Lib.hid (And.intro (And.intro o0 (And.intro o1 o2)) hi)
        clear o0 o1 o2
        go_wp2_with fail
        go_round
        case rel => exact ⟨1, by omega, rfl, fun _ => HO.out.2, by omega, by omega⟩
        case measure => simp [intOf]
    | 1, _ =>
      clear p1 p2
      go_wp2_with fail
      refine (within_c (f.qos) 0 1000 _).mono ?_
      rintro e w' ⟨rfl, rfl⟩
      cases hi : inB (f.qos) 0 1000
      · have e1 : (rightF f) = false := by unfold rightF; rw [hi]; simp
        have E1 := Lib.hid e1
        clear e1 o0 o1 o2
        go_wp2
        go_ret
        exact ⟨by rw [E1.out]; rfl, H2.out.below⟩
      · have HO := Lib.hid (And.intro (And.intro o0 (And.intro o1 o2)) hi)
        clear o0 o1 o2
        go_wp2_with fail
        go_round
        case rel => exact ⟨2, by omega, rfl, fun _ => HO.out.1.1 (by omega), fun _ => HO.out.2, by omega⟩
        case measure => simp [intOf]
    | 2, _ =>
      clear p1 p2
      go_wp2_with fail
      refine (within_c (f.shr) 0 1000 _).mono ?_
      rintro e w' ⟨rfl, rfl⟩
      cases hi : inB (f.shr) 0 1000
      · have e1 : (rightF f) = false := by unfold rightF; rw [hi]; simp
        have E1 := Lib.hid e1
        clear e1 o0 o1 o2
        go_wp2
        go_ret
        exact ⟨by rw [E1.out]; rfl, H2.out.below⟩
      · have HO := Lib.hid (And.intro (And.intro o0 (And.intro o1 o2)) hi)
        clear o0 o1 o2
        go_wp2_with fail
        go_round
        case rel => exact ⟨3, by omega, rfl, fun _ => HO.out.1.1 (by omega), fun _ => HO.out.1.2.1 (by omega), fun _ => HO.out.2⟩
        case measure => simp [intOf]
    | 3, _ =>
      clear q1 q2
      have s0 := o0 (by omega)
      have s1 := o1 (by omega)
      have s2 := o2 (by omega)
      have ev : (rightF f) = (inB f.id 1 1000000 && inB f.sub 0 1099511627776 && inB f.nod 1 256) := by unfold rightF; rw [s0, s1, s2]; simp [Bool.and_assoc]
      have EV := Lib.hid ev
      clear ev s0 o0 s1 o1 s2 o2
      go_wp2_with fail
      refine (within_c (f.id) 1 1000000 _).mono ?_
      rintro e w' ⟨rfl, rfl⟩
      cases t0 : inB (f.id) 1 1000000
      · have EV2 := EV.out
        simp only [t0, Bool.true_and, Bool.false_and] at EV2
        have EV3 := Lib.hid EV2
        clear EV2 EV
        go_wp2
        go_ret
        exact ⟨by rw [EV3.out]; rfl, H2.out.below⟩
      · skip
        go_wp2_with fail
        refine (within_c (f.sub) 0 1099511627776 _).mono ?_
        rintro e w' ⟨rfl, rfl⟩
        cases t1 : inB (f.sub) 0 1099511627776
        · have EV2 := EV.out
          simp only [t0, t1, Bool.true_and, Bool.false_and] at EV2
          have EV3 := Lib.hid EV2
          clear EV2 EV
          go_wp2
          go_ret
          exact ⟨by rw [EV3.out]; rfl, H2.out.below⟩
        · skip
          go_wp2_with fail
          refine (within_c (f.nod) 1 256 _).mono ?_
          rintro e w' ⟨rfl, rfl⟩
          have EV2 := EV.out
          simp only [t0, t1, Bool.true_and] at EV2
          have EV3 := Lib.hid EV2
          clear EV2 EV
          go_wp2
          go_ret
          exact ⟨by rw [EV3.out]; rfl, H2.out.below⟩
set_option maxRecDepth 100000 in
set_option maxHeartbeats 4000000 in
theorem may_c (v : We) (now : Int) (w : World) : Calls Try.prog 15 #[wV v, .int .i64 now] w fun e w' => e = .returned (.bool (mayW v now)) ∧ Below w.heap.size w w' := by
  go_enter Try.func15, Try.ntmps15
  have H0 := Lib.hid (Bs.nil w)
  go_wp2_with (first
    | (refine wpList_alloc_b rfl (some 2) rfl 31 (wA v) (by kernel_rfl) ?_; intro g1 W1 hb hB hg; have H1 := Lib.hid (H0.out.new hb hB hg); obtain ⟨p1, p2, p3⟩ := H1.out.rules 0 rfl; clear hb hB hg H0))
  have H2 := Lib.hid (H1.out.alloc 3 #[.int .i64 v.age, .int .i64 v.siz, .int .i64 v.prt, .int .i64 v.qos, .int .i64 v.shr])
  clear H1 p1 p2 p3
  obtain ⟨g2, hg2⟩ : ∃ g2, g2 = W1.heap.size := ⟨_, rfl⟩
  rw [← hg2] at H2
  rw [← hg2]
  obtain ⟨W2, hW2⟩ : ∃ W2, W2 = W1.alloc (.cells #[.int .i64 v.age, .int .i64 v.siz, .int .i64 v.prt, .int .i64 v.qos, .int .i64 v.shr] 3) := ⟨_, rfl⟩
  rw [← hW2] at H2
  rw [← hW2]
  clear hW2 hg2
  obtain ⟨p1, p2, p3⟩ := H2.out.rules 0 rfl
  obtain ⟨q1, q2, q3⟩ := H2.out.rules 1 rfl
  go_loop [6, 19] (fun x i => ∃ k : Nat, k ≤ 5 ∧ i = .int .i64 k ∧ (1 ≤ k → inB v.age 0 1000000 = true) ∧ (2 ≤ k → inB v.siz 0 1000000 = true) ∧ (3 ≤ k → inB v.prt 0 1000000 = true) ∧ (4 ≤ k → inB v.qos 0 1000000 = true) ∧ (5 ≤ k → inB v.shr 0 1000000 = true)) (fun _ i => 5 - (intOf i).toNat)
  case atStart => exact ⟨0, by omega, rfl, by omega, by omega, by omega, by omega, by omega⟩
  case round =>
    obtain ⟨k, hk, rfl, o0, o1, o2, o3, o4⟩ := hrel
    match k, hk with
    | 0, _ =>
      clear p1 p2
      go_wp2_with fail
      refine (within_c (v.age) 0 1000000 _).mono ?_
      rintro e w' ⟨rfl, rfl⟩
      cases hi : inB (v.age) 0 1000000
      · have e1 : (mayW v now) = false := by unfold mayW; rw [hi]; simp
        have E1 := Lib.hid e1
        clear e1 o0 o1 o2 o3 o4
        go_wp2
        go_ret
        exact ⟨by rw [E1.out]; rfl, H2.out.below⟩
      · have HO := Lib.hid (And.intro (And.intro o0 (And.intro o1 (And.intro o2 (And.intro o3 o4)))) hi)
        clear o0 o1 o2 o3 o4
        go_wp2_with fail
        go_round
        case rel => exact ⟨1, by omega, rfl, fun _ => HO.out.2, by omega, by omega, by omega, by omega⟩
        case measure => simp [intOf]
    | 1, _ =>
      clear p1 p2
      go_wp2_with fail
      refine (within_c (v.siz) 0 1000000 _).mono ?_
      rintro e w' ⟨rfl, rfl⟩
      cases hi : inB (v.siz) 0 1000000
      · have e1 : (mayW v now) = false := by unfold mayW; rw [hi]; simp
        have E1 := Lib.hid e1
        clear e1 o0 o1 o2 o3 o4
        go_wp2
        go_ret
        exact ⟨by rw [E1.out]; rfl, H2.out.below⟩
      · have HO := Lib.hid (And.intro (And.intro o0 (And.intro o1 (And.intro o2 (And.intro o3 o4)))) hi)
        clear o0 o1 o2 o3 o4
        go_wp2_with fail
        go_round
        case rel => exact ⟨2, by omega, rfl, fun _ => HO.out.1.1 (by omega), fun _ => HO.out.2, by omega, by omega, by omega⟩
        case measure => simp [intOf]
    | 2, _ =>
      clear p1 p2
      go_wp2_with fail
      refine (within_c (v.prt) 0 1000000 _).mono ?_
      rintro e w' ⟨rfl, rfl⟩
      cases hi : inB (v.prt) 0 1000000
      · have e1 : (mayW v now) = false := by unfold mayW; rw [hi]; simp
        have E1 := Lib.hid e1
        clear e1 o0 o1 o2 o3 o4
        go_wp2
        go_ret
        exact ⟨by rw [E1.out]; rfl, H2.out.below⟩
      · have HO := Lib.hid (And.intro (And.intro o0 (And.intro o1 (And.intro o2 (And.intro o3 o4)))) hi)
        clear o0 o1 o2 o3 o4
        go_wp2_with fail
        go_round
        case rel => exact ⟨3, by omega, rfl, fun _ => HO.out.1.1 (by omega), fun _ => HO.out.1.2.1 (by omega), fun _ => HO.out.2, by omega, by omega⟩
        case measure => simp [intOf]
    | 3, _ =>
      clear p1 p2
      go_wp2_with fail
      refine (within_c (v.qos) 0 1000000 _).mono ?_
      rintro e w' ⟨rfl, rfl⟩
      cases hi : inB (v.qos) 0 1000000
      · have e1 : (mayW v now) = false := by unfold mayW; rw [hi]; simp
        have E1 := Lib.hid e1
        clear e1 o0 o1 o2 o3 o4
        go_wp2
        go_ret
        exact ⟨by rw [E1.out]; rfl, H2.out.below⟩
      · have HO := Lib.hid (And.intro (And.intro o0 (And.intro o1 (And.intro o2 (And.intro o3 o4)))) hi)
        clear o0 o1 o2 o3 o4
        go_wp2_with fail
        go_round
        case rel => exact ⟨4, by omega, rfl, fun _ => HO.out.1.1 (by omega), fun _ => HO.out.1.2.1 (by omega), fun _ => HO.out.1.2.2.1 (by omega), fun _ => HO.out.2, by omega⟩
        case measure => simp [intOf]
    | 4, _ =>
      clear p1 p2
      go_wp2_with fail
      refine (within_c (v.shr) 0 1000000 _).mono ?_
      rintro e w' ⟨rfl, rfl⟩
      cases hi : inB (v.shr) 0 1000000
      · have e1 : (mayW v now) = false := by unfold mayW; rw [hi]; simp
        have E1 := Lib.hid e1
        clear e1 o0 o1 o2 o3 o4
        go_wp2
        go_ret
        exact ⟨by rw [E1.out]; rfl, H2.out.below⟩
      · have HO := Lib.hid (And.intro (And.intro o0 (And.intro o1 (And.intro o2 (And.intro o3 o4)))) hi)
        clear o0 o1 o2 o3 o4
        go_wp2_with fail
        go_round
        case rel => exact ⟨5, by omega, rfl, fun _ => HO.out.1.1 (by omega), fun _ => HO.out.1.2.1 (by omega), fun _ => HO.out.1.2.2.1 (by omega), fun _ => HO.out.1.2.2.2.1 (by omega), fun _ => HO.out.2⟩
        case measure => simp [intOf]
    | 5, _ =>
      clear q1 q2
      have s0 := o0 (by omega)
      have s1 := o1 (by omega)
      have s2 := o2 (by omega)
      have s3 := o3 (by omega)
      have s4 := o4 (by omega)
      have ev : (mayW v now) = (inB v.mst 1 1099511627776 && inB now 0 1099511627776) := by unfold mayW; rw [s0, s1, s2, s3, s4]; simp [Bool.and_assoc]
      have EV := Lib.hid ev
      clear ev s0 o0 s1 o1 s2 o2 s3 o3 s4 o4
      go_wp2_with fail
      refine (within_c (v.mst) 1 1099511627776 _).mono ?_
      rintro e w' ⟨rfl, rfl⟩
      cases t0 : inB (v.mst) 1 1099511627776
      · have EV2 := EV.out
        simp only [t0, Bool.true_and, Bool.false_and] at EV2
        have EV3 := Lib.hid EV2
        clear EV2 EV
        go_wp2
        go_ret
        exact ⟨by rw [EV3.out]; rfl, H2.out.below⟩
      · skip
        go_wp2_with fail
        refine (within_c (now) 0 1099511627776 _).mono ?_
        rintro e w' ⟨rfl, rfl⟩
        have EV2 := EV.out
        simp only [t0, Bool.true_and] at EV2
        have EV3 := Lib.hid EV2
        clear EV2 EV
        go_wp2
        go_ret
        exact ⟨by rw [EV3.out]; rfl, H2.out.below⟩
set_option maxRecDepth 100000 in
set_option maxHeartbeats 4000000 in
theorem rmay_c (v : We) (now : Int) (w : World) : Calls Try.prog 17 #[wV v, .int .i64 now] w fun e w' => e = .returned (.bool (mayW v now)) ∧ Below w.heap.size w w' := by
  go_enter Try.func17, Try.ntmps17
  have H0 := Lib.hid (Bs.nil w)
  go_wp2_with (first
    | (refine wpList_alloc_b rfl (some 2) rfl 25 (wA v) (by kernel_rfl) ?_; intro g1 W1 hb hB hg; have H1 := Lib.hid (H0.out.new hb hB hg); obtain ⟨p1, p2, p3⟩ := H1.out.rules 0 rfl; clear hb hB hg H0))
  have H2 := Lib.hid (H1.out.alloc 3 #[.int .i64 v.age, .int .i64 v.siz, .int .i64 v.prt, .int .i64 v.qos, .int .i64 v.shr])
  clear H1 p1 p2 p3
  obtain ⟨g2, hg2⟩ : ∃ g2, g2 = W1.heap.size := ⟨_, rfl⟩
  rw [← hg2] at H2
  rw [← hg2]
  obtain ⟨W2, hW2⟩ : ∃ W2, W2 = W1.alloc (.cells #[.int .i64 v.age, .int .i64 v.siz, .int .i64 v.prt, .int .i64 v.qos, .int .i64 v.shr] 3) := ⟨_, rfl⟩
  rw [← hW2] at H2
  rw [← hW2]
  clear hW2 hg2
  obtain ⟨p1, p2, p3⟩ := H2.out.rules 0 rfl
  obtain ⟨q1, q2, q3⟩ := H2.out.rules 1 rfl
  go_loop [6] (fun i => ∃ k : Nat, k ≤ 5 ∧ i = .int .i64 k ∧ (1 ≤ k → inB v.age 0 1000000 = true) ∧ (2 ≤ k → inB v.siz 0 1000000 = true) ∧ (3 ≤ k → inB v.prt 0 1000000 = true) ∧ (4 ≤ k → inB v.qos 0 1000000 = true) ∧ (5 ≤ k → inB v.shr 0 1000000 = true)) (fun i => 5 - (intOf i).toNat)
  case atStart => exact ⟨0, by omega, rfl, by omega, by omega, by omega, by omega, by omega⟩
  case round =>
    obtain ⟨k, hk, rfl, o0, o1, o2, o3, o4⟩ := hrel
    match k, hk with
    | 0, _ =>
      clear p1 p2
      go_wp2_with fail
      refine (rin_c (v.age) 0 1000000 _).mono ?_
      rintro e w' ⟨rfl, rfl⟩
      cases hi : inB (v.age) 0 1000000
      · have e1 : (mayW v now) = false := by unfold mayW; rw [hi]; simp
        have E1 := Lib.hid e1
        clear e1 o0 o1 o2 o3 o4
        go_wp2
        go_ret
        exact ⟨by rw [E1.out]; rfl, H2.out.below⟩
      · have HO := Lib.hid (And.intro (And.intro o0 (And.intro o1 (And.intro o2 (And.intro o3 o4)))) hi)
        clear o0 o1 o2 o3 o4
        go_wp2_with fail
        go_round
        case rel => exact ⟨1, by omega, rfl, fun _ => HO.out.2, by omega, by omega, by omega, by omega⟩
        case measure => simp [intOf]
    | 1, _ =>
      clear p1 p2
      go_wp2_with fail
      refine (rin_c (v.siz) 0 1000000 _).mono ?_
      rintro e w' ⟨rfl, rfl⟩
      cases hi : inB (v.siz) 0 1000000
      · have e1 : (mayW v now) = false := by unfold mayW; rw [hi]; simp
        have E1 := Lib.hid e1
        clear e1 o0 o1 o2 o3 o4
        go_wp2
        go_ret
        exact ⟨by rw [E1.out]; rfl, H2.out.below⟩
      · have HO := Lib.hid (And.intro (And.intro o0 (And.intro o1 (And.intro o2 (And.intro o3 o4)))) hi)
        clear o0 o1 o2 o3 o4
        go_wp2_with fail
        go_round
        case rel => exact ⟨2, by omega, rfl, fun _ => HO.out.1.1 (by omega), fun _ => HO.out.2, by omega, by omega, by omega⟩
        case measure => simp [intOf]
    | 2, _ =>
      clear p1 p2
      go_wp2_with fail
      refine (rin_c (v.prt) 0 1000000 _).mono ?_
      rintro e w' ⟨rfl, rfl⟩
      cases hi : inB (v.prt) 0 1000000
      · have e1 : (mayW v now) = false := by unfold mayW; rw [hi]; simp
        have E1 := Lib.hid e1
        clear e1 o0 o1 o2 o3 o4
        go_wp2
        go_ret
        exact ⟨by rw [E1.out]; rfl, H2.out.below⟩
      · have HO := Lib.hid (And.intro (And.intro o0 (And.intro o1 (And.intro o2 (And.intro o3 o4)))) hi)
        clear o0 o1 o2 o3 o4
        go_wp2_with fail
        go_round
        case rel => exact ⟨3, by omega, rfl, fun _ => HO.out.1.1 (by omega), fun _ => HO.out.1.2.1 (by omega), fun _ => HO.out.2, by omega, by omega⟩
        case measure => simp [intOf]
    | 3, _ =>
      clear p1 p2
      go_wp2_with fail
      refine (rin_c (v.qos) 0 1000000 _).mono ?_
      rintro e w' ⟨rfl, rfl⟩
      cases hi : inB (v.qos) 0 1000000
      · have e1 : (mayW v now) = false := by unfold mayW; rw [hi]; simp
        have E1 := Lib.hid e1
        clear e1 o0 o1 o2 o3 o4
        go_wp2
        go_ret
        exact ⟨by rw [E1.out]; rfl, H2.out.below⟩
      · have HO := Lib.hid (And.intro (And.intro o0 (And.intro o1 (And.intro o2 (And.intro o3 o4)))) hi)
        clear o0 o1 o2 o3 o4
        go_wp2_with fail
        go_round
        case rel => exact ⟨4, by omega, rfl, fun _ => HO.out.1.1 (by omega), fun _ => HO.out.1.2.1 (by omega), fun _ => HO.out.1.2.2.1 (by omega), fun _ => HO.out.2, by omega⟩
        case measure => simp [intOf]
    | 4, _ =>
      clear p1 p2
      go_wp2_with fail
      refine (rin_c (v.shr) 0 1000000 _).mono ?_
      rintro e w' ⟨rfl, rfl⟩
      cases hi : inB (v.shr) 0 1000000
      · have e1 : (mayW v now) = false := by unfold mayW; rw [hi]; simp
        have E1 := Lib.hid e1
        clear e1 o0 o1 o2 o3 o4
        go_wp2
        go_ret
        exact ⟨by rw [E1.out]; rfl, H2.out.below⟩
      · have HO := Lib.hid (And.intro (And.intro o0 (And.intro o1 (And.intro o2 (And.intro o3 o4)))) hi)
        clear o0 o1 o2 o3 o4
        go_wp2_with fail
        go_round
        case rel => exact ⟨5, by omega, rfl, fun _ => HO.out.1.1 (by omega), fun _ => HO.out.1.2.1 (by omega), fun _ => HO.out.1.2.2.1 (by omega), fun _ => HO.out.1.2.2.2.1 (by omega), fun _ => HO.out.2⟩
        case measure => simp [intOf]
    | 5, _ =>
      clear q1 q2
      have s0 := o0 (by omega)
      have s1 := o1 (by omega)
      have s2 := o2 (by omega)
      have s3 := o3 (by omega)
      have s4 := o4 (by omega)
      have ev : (mayW v now) = (inB v.mst 1 1099511627776 && inB now 0 1099511627776) := by unfold mayW; rw [s0, s1, s2, s3, s4]; simp [Bool.and_assoc]
      have EV := Lib.hid ev
      clear ev s0 o0 s1 o1 s2 o2 s3 o3 s4 o4
      go_wp2_with fail
      refine (rin_c (v.mst) 1 1099511627776 _).mono ?_
      rintro e w' ⟨rfl, rfl⟩
      cases t0 : inB (v.mst) 1 1099511627776
      · have EV2 := EV.out
        simp only [t0, Bool.true_and, Bool.false_and] at EV2
        have EV3 := Lib.hid EV2
        clear EV2 EV
        go_wp2
        go_ret
        exact ⟨by rw [EV3.out]; rfl, H2.out.below⟩
      · skip
        go_wp2_with fail
        refine (rin_c (now) 0 1099511627776 _).mono ?_
        rintro e w' ⟨rfl, rfl⟩
        have EV2 := EV.out
        simp only [t0, Bool.true_and] at EV2
        have EV3 := Lib.hid EV2
        clear EV2 EV
        go_wp2
        go_ret
        exact ⟨by rw [EV3.out]; rfl, H2.out.below⟩
theorem rightF_order (f : Fa) : rightF f = (inB f.id 1 1000000 && inB f.sub 0 1099511627776 && inB f.nod 1 256 && inB f.prt 0 1000 && inB f.qos 0 1000 && inB f.shr 0 1000) := by
  unfold rightF
  cases inB f.id 1 1000000 <;> cases inB f.sub 0 1099511627776 <;> cases inB f.nod 1 256 <;> cases inB f.prt 0 1000 <;> cases inB f.qos 0 1000 <;> cases inB f.shr 0 1000 <;> rfl
set_option maxRecDepth 100000 in
set_option maxHeartbeats 4000000 in
theorem rright_c (f : Fa) (w : World) : Calls Try.prog 12 #[fV f] w fun e w' => e = .returned (.bool (rightF f)) ∧ Below w.heap.size w w' := by
  have EV := Lib.hid (rightF_order f)
  go_enter Try.func12, Try.ntmps12
  have H0 := Lib.hid (Bs.nil w)
  go_wp2_with (first
    | (refine wpList_alloc_b rfl (some 1) rfl 23 (fA f) (by kernel_rfl) ?_; intro g1 W1 hb hB hg; have H2 := Lib.hid (H0.out.new hb hB hg); obtain ⟨p1, p2, p3⟩ := H2.out.rules 0 rfl; clear hb hB hg H0))
  go_wp2_with fail
  refine (rin_c (f.id) 1 1000000 _).mono ?_
  rintro e w' ⟨rfl, rfl⟩
  cases t0 : inB (f.id) 1 1000000
  · have EV2 := EV.out
    simp only [t0, Bool.true_and, Bool.false_and] at EV2
    have EV3 := Lib.hid EV2
    clear EV2 EV
    go_wp2
    go_ret
    exact ⟨by rw [EV3.out]; rfl, H2.out.below⟩
  · skip
    go_wp2_with fail
    refine (rin_c (f.sub) 0 1099511627776 _).mono ?_
    rintro e w' ⟨rfl, rfl⟩
    cases t1 : inB (f.sub) 0 1099511627776
    · have EV2 := EV.out
      simp only [t0, t1, Bool.true_and, Bool.false_and] at EV2
      have EV3 := Lib.hid EV2
      clear EV2 EV
      go_wp2
      go_ret
      exact ⟨by rw [EV3.out]; rfl, H2.out.below⟩
    · skip
      go_wp2_with fail
      refine (rin_c (f.nod) 1 256 _).mono ?_
      rintro e w' ⟨rfl, rfl⟩
      cases t2 : inB (f.nod) 1 256
      · have EV2 := EV.out
        simp only [t0, t1, t2, Bool.true_and, Bool.false_and] at EV2
        have EV3 := Lib.hid EV2
        clear EV2 EV
        go_wp2
        go_ret
        exact ⟨by rw [EV3.out]; rfl, H2.out.below⟩
      · skip
        go_wp2_with fail
        refine (rin_c (f.prt) 0 1000 _).mono ?_
        rintro e w' ⟨rfl, rfl⟩
        cases t3 : inB (f.prt) 0 1000
        · have EV2 := EV.out
          simp only [t0, t1, t2, t3, Bool.true_and, Bool.false_and] at EV2
          have EV3 := Lib.hid EV2
          clear EV2 EV
          go_wp2
          go_ret
          exact ⟨by rw [EV3.out]; rfl, H2.out.below⟩
        · skip
          go_wp2_with fail
          refine (rin_c (f.qos) 0 1000 _).mono ?_
          rintro e w' ⟨rfl, rfl⟩
          cases t4 : inB (f.qos) 0 1000
          · have EV2 := EV.out
            simp only [t0, t1, t2, t3, t4, Bool.true_and, Bool.false_and] at EV2
            have EV3 := Lib.hid EV2
            clear EV2 EV
            go_wp2
            go_ret
            exact ⟨by rw [EV3.out]; rfl, H2.out.below⟩
          · skip
            go_wp2_with fail
            refine (rin_c (f.shr) 0 1000 _).mono ?_
            rintro e w' ⟨rfl, rfl⟩
            have EV2 := EV.out
            simp only [t0, t1, t2, t3, t4, Bool.true_and] at EV2
            have EV3 := Lib.hid EV2
            clear EV2 EV
            go_wp2
            go_ret
            exact ⟨by rw [EV3.out]; rfl, H2.out.below⟩
end Go.Proofs.Ytmilcgfcmeahgaa
