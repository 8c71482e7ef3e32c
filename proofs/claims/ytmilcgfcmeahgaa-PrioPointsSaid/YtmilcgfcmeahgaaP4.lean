/- Prio: the package's points. -/
import Derived.Test.YtmilcgfcmeahgaaP3
set_option linter.unusedVariables false
namespace Go.Proofs.Ytmilcgfcmeahgaa
open Go.RowKit

theorem age_clamp (f : Fa) (v : We) (now : Int) : clampV (now - f.sub) 0 v.mst = ageF f v now := rfl

theorem mul_fit (a b : Int) (ha : inI a) (hb : inI b) (h : inI (a * b)) (w : World) : Calls Try.prog 22 #[.int .i64 a, .int .i64 b] w fun e w' => e = .returned (.tuple #[.int .i64 (a * b), .int .i64 0]) ∧ w = w' := by
  have hf : fits (a * b) = true := by rw [fits_iff]; exact h
  have := mul_c a b ha hb w
  rwa [okV_yes hf, okE_yes hf] at this
theorem most_fit (a b : Int) (ha : inI a) (hb : inI b) (h : inI (a + b)) (w : World) : Calls Try.prog 23 #[.int .i64 a, .int .i64 b] w fun e w' => e = .returned (.int .i64 (a + b)) ∧ w = w' := by
  have := most_c a b ha hb w
  rwa [show mostV (a + b) = a + b by unfold mostV inI at *; rw [if_neg (by omega), if_neg (by omega)]] at this
/-- The sum of the first k. -/
def accP (f : Fa) (v : We) (now : Int) : Nat → Int
  | 0 => 0
  | 1 => (ageF f v now * v.age).tdiv v.mst
  | 2 => (ageF f v now * v.age).tdiv v.mst + (f.nod * v.siz).tdiv 256
  | 3 => (ageF f v now * v.age).tdiv v.mst + (f.nod * v.siz).tdiv 256 + (f.prt * v.prt).tdiv 1000
  | 4 => (ageF f v now * v.age).tdiv v.mst + (f.nod * v.siz).tdiv 256 + (f.prt * v.prt).tdiv 1000 + (f.qos * v.qos).tdiv 1000
  | _ => ptsF f v now

theorem term_bounds (f : Fa) (v : We) (now : Int) (hr : rightF f = true) (hm : mayW v now = true) :
    (0 ≤ f.nod * v.siz ∧ f.nod * v.siz ≤ 256 * 1000000) ∧ (0 ≤ f.prt * v.prt ∧ f.prt * v.prt ≤ 1000 * 1000000) ∧ (0 ≤ f.qos * v.qos ∧ f.qos * v.qos ≤ 1000 * 1000000) ∧ (0 ≤ f.shr * v.shr ∧ f.shr * v.shr ≤ 1000 * 1000000) ∧
    (0 ≤ (ageF f v now * v.age).tdiv v.mst ∧ (ageF f v now * v.age).tdiv v.mst ≤ 1099511627776 * 1000000) ∧ (0 ≤ (f.nod * v.siz).tdiv 256 ∧ (f.nod * v.siz).tdiv 256 ≤ 256 * 1000000) ∧ (0 ≤ (f.prt * v.prt).tdiv 1000 ∧ (f.prt * v.prt).tdiv 1000 ≤ 1000 * 1000000) ∧ (0 ≤ (f.qos * v.qos).tdiv 1000 ∧ (f.qos * v.qos).tdiv 1000 ≤ 1000 * 1000000) ∧ (0 ≤ (f.shr * v.shr).tdiv 1000 ∧ (f.shr * v.shr).tdiv 1000 ≤ 1000 * 1000000) := by
  obtain ⟨⟨i1, i2⟩, ⟨s1, s2⟩, ⟨n1, n2⟩, ⟨r1, r2⟩, ⟨q1, q2⟩, ⟨h1, h2⟩⟩ := right_bounds hr
  obtain ⟨⟨a1, a2⟩, ⟨z1, z2⟩, ⟨t1, t2⟩, ⟨u1, u2⟩, ⟨x1, x2⟩, ⟨m1, m2⟩, ⟨c1, c2⟩⟩ := may_bounds hm
  have g := age_bounds f v now m1
  have b0 := mul_bound g.1 (Int.le_trans g.2 m2) a1 a2
  have b1 := mul_bound (show 0 ≤ f.nod by omega) n2 z1 z2
  have b2 := mul_bound r1 r2 t1 t2
  have b3 := mul_bound q1 q2 u1 u2
  have b4 := mul_bound h1 h2 x1 x2
  exact ⟨b1, b2, b3, b4, div_bound b0.1 b0.2 m1, div_bound b1.1 b1.2 (by decide), div_bound b2.1 b2.2 (by decide), div_bound b3.1 b3.2 (by decide), div_bound b4.1 b4.2 (by decide)⟩

@[go_sem] theorem idx5_0 (x0 x1 x2 x3 x4 x5 x6 x7 x8 x9 x10 x11 x12 x13 x14 : Int) (w : World) : (Instr.index 56 (.agg #[.int .i64 x0, .int .i64 x1, .int .i64 x2, .int .i64 x3, .int .i64 x4, .int .i64 x5, .int .i64 x6, .int .i64 x7, .int .i64 x8, .int .i64 x9, .int .i64 x10, .int .i64 x11, .int .i64 x12, .int .i64 x13, .int .i64 x14]) (.int .i64 0)).run Try.prog w = .ok (.agg #[.int .i64 x0, .int .i64 x1, .int .i64 x2]) w := by kernel_rfl
@[go_sem] theorem idx5_1 (x0 x1 x2 x3 x4 x5 x6 x7 x8 x9 x10 x11 x12 x13 x14 : Int) (w : World) : (Instr.index 56 (.agg #[.int .i64 x0, .int .i64 x1, .int .i64 x2, .int .i64 x3, .int .i64 x4, .int .i64 x5, .int .i64 x6, .int .i64 x7, .int .i64 x8, .int .i64 x9, .int .i64 x10, .int .i64 x11, .int .i64 x12, .int .i64 x13, .int .i64 x14]) (.int .i64 1)).run Try.prog w = .ok (.agg #[.int .i64 x3, .int .i64 x4, .int .i64 x5]) w := by kernel_rfl
@[go_sem] theorem idx5_2 (x0 x1 x2 x3 x4 x5 x6 x7 x8 x9 x10 x11 x12 x13 x14 : Int) (w : World) : (Instr.index 56 (.agg #[.int .i64 x0, .int .i64 x1, .int .i64 x2, .int .i64 x3, .int .i64 x4, .int .i64 x5, .int .i64 x6, .int .i64 x7, .int .i64 x8, .int .i64 x9, .int .i64 x10, .int .i64 x11, .int .i64 x12, .int .i64 x13, .int .i64 x14]) (.int .i64 2)).run Try.prog w = .ok (.agg #[.int .i64 x6, .int .i64 x7, .int .i64 x8]) w := by kernel_rfl
@[go_sem] theorem idx5_3 (x0 x1 x2 x3 x4 x5 x6 x7 x8 x9 x10 x11 x12 x13 x14 : Int) (w : World) : (Instr.index 56 (.agg #[.int .i64 x0, .int .i64 x1, .int .i64 x2, .int .i64 x3, .int .i64 x4, .int .i64 x5, .int .i64 x6, .int .i64 x7, .int .i64 x8, .int .i64 x9, .int .i64 x10, .int .i64 x11, .int .i64 x12, .int .i64 x13, .int .i64 x14]) (.int .i64 3)).run Try.prog w = .ok (.agg #[.int .i64 x9, .int .i64 x10, .int .i64 x11]) w := by kernel_rfl
@[go_sem] theorem idx5_4 (x0 x1 x2 x3 x4 x5 x6 x7 x8 x9 x10 x11 x12 x13 x14 : Int) (w : World) : (Instr.index 56 (.agg #[.int .i64 x0, .int .i64 x1, .int .i64 x2, .int .i64 x3, .int .i64 x4, .int .i64 x5, .int .i64 x6, .int .i64 x7, .int .i64 x8, .int .i64 x9, .int .i64 x10, .int .i64 x11, .int .i64 x12, .int .i64 x13, .int .i64 x14]) (.int .i64 4)).run Try.prog w = .ok (.agg #[.int .i64 x12, .int .i64 x13, .int .i64 x14]) w := by kernel_rfl
set_option maxRecDepth 100000 in
set_option maxHeartbeats 4000000 in
theorem pts_c (f : Fa) (v : We) (now : Int) (hr : rightF f = true) (hm : mayW v now = true) (w : World) : Calls Try.prog 16 #[wV v, fV f, .int .i64 now] w fun e w' => e = .returned (.int .i64 (ptsF f v now)) ∧ Below w.heap.size w w' := by
  have HB := Lib.hid (And.intro (right_bounds hr) (may_bounds hm))
  have HT := Lib.hid (term_bounds f v now hr hm)
  have hw1 : IntKind.i64.wrap (now - f.sub) = now - f.sub := by have := HB.out; rw [IntKind.wrap_i64]; omega
  have hc := clamp_c (now - f.sub) 0 v.mst
  rw [age_clamp] at hc
  have HC := Lib.hid hc
  clear hc hr hm
  go_enter Try.func16, Try.ntmps16
  have H0 := Lib.hid (Bs.nil w)
  go_wp2_with (first
    | (refine wpList_alloc_b rfl (some 3) rfl 31 (wA v) (by kernel_rfl) ?_; intro g1 W1 hb hB hg; have H1 := Lib.hid (H0.out.new hb hB hg); clear hb hB hg H0)
    | (refine wpList_alloc_b rfl (some 4) rfl 29 (fA f) (by kernel_rfl) ?_; intro g2 W2 hb hB hg; have H2 := Lib.hid (H1.out.new hb hB hg); obtain ⟨p1, p2, p3⟩ := H2.out.rules 0 rfl; obtain ⟨p4, p5, p6⟩ := H2.out.rules 1 rfl; clear hb hB hg H1))
  clear p2 p3 p5 p6
  go_quiet ((go_at_call 21; first | exact Calls.quiet_of_same (HC.out _) | exact Calls.quiet_of_same (still_of (HC.out _))))
  have H3 := Lib.hid (H2.out.drewN nq)
  clear H2 p1 p4 HC
  obtain ⟨W3, hW3⟩ : ∃ W3, W3 = W2.drewN nq := ⟨_, rfl⟩
  rw [← hW3] at H3
  rw [← hW3]
  clear hW3
  go_wp2_with fail
  go_loopw [7, 45] (fun n i wr => ∃ k : Nat, k ≤ 5 ∧ i = .int .i64 k ∧ n = .int .i64 (accP f v now k) ∧ Below w.heap.size w wr) (fun _ i _ => 5 - (intOf i).toNat)
  case atStart => exact ⟨0, by omega, rfl, rfl, H3.out.below⟩
  case round =>
    obtain ⟨k, hk, rfl, rfl, hb⟩ := hrel
    have HL := Lib.hid hb
    clear hb
    match k, hk with
    | 5, _ =>
      go_wp2
      go_ret
      exact ⟨rfl, HL.out⟩
    | 0, _ =>
      have hg := age_bounds f v now HB.out.2.2.2.2.2.2.1.1
      have hp := mul_bound hg.1 (Int.le_trans hg.2 HB.out.2.2.2.2.2.2.1.2) HB.out.2.1.1 HB.out.2.1.2
      have hd := div_bound hp.1 hp.2 HB.out.2.2.2.2.2.2.1.1
      have hv := HB.out
      have HM := Lib.hid (mul_fit (ageF f v now) v.age (by unfold inI; omega) (by unfold inI; omega) (by unfold inI; omega))
      have HS := Lib.hid (most_fit (accP f v now 0) ((ageF f v now * v.age).tdiv v.mst) (by show inI 0; unfold inI; omega) (by unfold inI; omega) (by show inI (0 + _); unfold inI; omega))
      have hmz : v.mst ≠ 0 := by omega
      have hw2 : IntKind.i64.wrap ((ageF f v now * v.age).tdiv v.mst) = (ageF f v now * v.age).tdiv v.mst := by rw [IntKind.wrap_i64]; omega
      have e : accP f v now 0 + (ageF f v now * v.age).tdiv v.mst = accP f v now 1 := Int.zero_add _
      have E := Lib.hid e
      clear hv hp hd hg e
      go_wp2_with (first
        | (refine wpList_alloc_b rfl (some 9) rfl 55 #[.int .i64 0, .int .i64 0, .int .i64 0] (by kernel_rfl) ?_; intro g5 W5 hb hB hg; have H5 := Lib.hid (And.intro (below_then HL.out HL.out.size hb) hB); have HG := Lib.hid (Nat.le_trans HL.out.size hg); clear hb hB hg HL)
        | (refine wpList_store_at rfl 55 _ _ rfl H5.out.2 (.agg #[.int .i64 (ageF f v now), .int .i64 v.age, .int .i64 v.mst]) rfl rfl (by kernel_rfl) (Nat.le_of_ble_eq_true rfl) (by kernel_rfl) ?_; intro W6 hB hP; have HL6 := Lib.hid (below_put H5.out.1 hP HG.out); obtain ⟨r1, r2, r3⟩ := (show Blk W6 g5 _ #[.int .i64 (ageF f v now), .int .i64 v.age, .int .i64 v.mst] from hB).rules; clear hB hP H5))
      refine (HM.out _).mono ?_
      rintro e w' ⟨rfl, rfl⟩
      go_wp2_with fail
      refine (HS.out _).mono ?_
      rintro e w' ⟨rfl, rfl⟩
      go_wp2_with fail
      refine ⟨⟨1, by omega, rfl, by rw [E.out], HL6.out⟩, by simp [intOf]⟩
    | 1, _ =>
      have hv := HB.out
      have ht := HT.out
      have hacc : 0 ≤ accP f v now 1 ∧ accP f v now 1 ≤ 2000000000000000000 := by simp only [accP]; omega
      have HM := Lib.hid (mul_fit f.nod v.siz (by unfold inI; omega) (by unfold inI; omega) (by unfold inI; omega))
      have HS := Lib.hid (most_fit (accP f v now 1) ((f.nod * v.siz).tdiv 256) (by unfold inI; omega) (by unfold inI; omega) (by unfold inI; omega))
      have hw2 : IntKind.i64.wrap ((f.nod * v.siz).tdiv 256) = (f.nod * v.siz).tdiv 256 := by rw [IntKind.wrap_i64]; omega
      have e : accP f v now 1 + (f.nod * v.siz).tdiv 256 = accP f v now 2 := rfl
      have E := Lib.hid e
      have hq := ht.1.1
      clear hv ht hacc e
      go_wp2_with (first
        | (refine wpList_alloc_b rfl (some 9) rfl 55 #[.int .i64 0, .int .i64 0, .int .i64 0] (by kernel_rfl) ?_; intro g5 W5 hb hB hg; have H5 := Lib.hid (And.intro (below_then HL.out HL.out.size hb) hB); have HG := Lib.hid (Nat.le_trans HL.out.size hg); clear hb hB hg HL)
        | (refine wpList_store_at rfl 55 _ _ rfl H5.out.2 (.agg #[.int .i64 f.nod, .int .i64 v.siz, .int .i64 256]) rfl rfl (by kernel_rfl) (Nat.le_of_ble_eq_true rfl) (by kernel_rfl) ?_; intro W6 hB hP; have HL6 := Lib.hid (below_put H5.out.1 hP HG.out); obtain ⟨r1, r2, r3⟩ := (show Blk W6 g5 _ #[.int .i64 f.nod, .int .i64 v.siz, .int .i64 256] from hB).rules; clear hB hP H5))
      refine (HM.out _).mono ?_
      rintro e w' ⟨rfl, rfl⟩
      go_wp2_with fail
      refine (HS.out _).mono ?_
      rintro e w' ⟨rfl, rfl⟩
      go_wp2_with fail
      refine ⟨⟨2, by omega, rfl, by rw [E.out], HL6.out⟩, by simp [intOf]⟩
    | 2, _ =>
      have hv := HB.out
      have ht := HT.out
      have hacc : 0 ≤ accP f v now 2 ∧ accP f v now 2 ≤ 2000000000000000000 := by simp only [accP]; omega
      have HM := Lib.hid (mul_fit f.prt v.prt (by unfold inI; omega) (by unfold inI; omega) (by unfold inI; omega))
      have HS := Lib.hid (most_fit (accP f v now 2) ((f.prt * v.prt).tdiv 1000) (by unfold inI; omega) (by unfold inI; omega) (by unfold inI; omega))
      have hw2 : IntKind.i64.wrap ((f.prt * v.prt).tdiv 1000) = (f.prt * v.prt).tdiv 1000 := by rw [IntKind.wrap_i64]; omega
      have e : accP f v now 2 + (f.prt * v.prt).tdiv 1000 = accP f v now 3 := rfl
      have E := Lib.hid e
      have hq := ht.2.1.1
      clear hv ht hacc e
      go_wp2_with (first
        | (refine wpList_alloc_b rfl (some 9) rfl 55 #[.int .i64 0, .int .i64 0, .int .i64 0] (by kernel_rfl) ?_; intro g5 W5 hb hB hg; have H5 := Lib.hid (And.intro (below_then HL.out HL.out.size hb) hB); have HG := Lib.hid (Nat.le_trans HL.out.size hg); clear hb hB hg HL)
        | (refine wpList_store_at rfl 55 _ _ rfl H5.out.2 (.agg #[.int .i64 f.prt, .int .i64 v.prt, .int .i64 1000]) rfl rfl (by kernel_rfl) (Nat.le_of_ble_eq_true rfl) (by kernel_rfl) ?_; intro W6 hB hP; have HL6 := Lib.hid (below_put H5.out.1 hP HG.out); obtain ⟨r1, r2, r3⟩ := (show Blk W6 g5 _ #[.int .i64 f.prt, .int .i64 v.prt, .int .i64 1000] from hB).rules; clear hB hP H5))
      refine (HM.out _).mono ?_
      rintro e w' ⟨rfl, rfl⟩
      go_wp2_with fail
      refine (HS.out _).mono ?_
      rintro e w' ⟨rfl, rfl⟩
      go_wp2_with fail
      refine ⟨⟨3, by omega, rfl, by rw [E.out], HL6.out⟩, by simp [intOf]⟩
    | 3, _ =>
      have hv := HB.out
      have ht := HT.out
      have hacc : 0 ≤ accP f v now 3 ∧ accP f v now 3 ≤ 2000000000000000000 := by simp only [accP]; omega
      have HM := Lib.hid (mul_fit f.qos v.qos (by unfold inI; omega) (by unfold inI; omega) (by unfold inI; omega))
      have HS := Lib.hid (most_fit (accP f v now 3) ((f.qos * v.qos).tdiv 1000) (by unfold inI; omega) (by unfold inI; omega) (by unfold inI; omega))
      have hw2 : IntKind.i64.wrap ((f.qos * v.qos).tdiv 1000) = (f.qos * v.qos).tdiv 1000 := by rw [IntKind.wrap_i64]; omega
      have e : accP f v now 3 + (f.qos * v.qos).tdiv 1000 = accP f v now 4 := rfl
      have E := Lib.hid e
      have hq := ht.2.2.1.1
      clear hv ht hacc e
      go_wp2_with (first
        | (refine wpList_alloc_b rfl (some 9) rfl 55 #[.int .i64 0, .int .i64 0, .int .i64 0] (by kernel_rfl) ?_; intro g5 W5 hb hB hg; have H5 := Lib.hid (And.intro (below_then HL.out HL.out.size hb) hB); have HG := Lib.hid (Nat.le_trans HL.out.size hg); clear hb hB hg HL)
        | (refine wpList_store_at rfl 55 _ _ rfl H5.out.2 (.agg #[.int .i64 f.qos, .int .i64 v.qos, .int .i64 1000]) rfl rfl (by kernel_rfl) (Nat.le_of_ble_eq_true rfl) (by kernel_rfl) ?_; intro W6 hB hP; have HL6 := Lib.hid (below_put H5.out.1 hP HG.out); obtain ⟨r1, r2, r3⟩ := (show Blk W6 g5 _ #[.int .i64 f.qos, .int .i64 v.qos, .int .i64 1000] from hB).rules; clear hB hP H5))
      refine (HM.out _).mono ?_
      rintro e w' ⟨rfl, rfl⟩
      go_wp2_with fail
      refine (HS.out _).mono ?_
      rintro e w' ⟨rfl, rfl⟩
      go_wp2_with fail
      refine ⟨⟨4, by omega, rfl, by rw [E.out], HL6.out⟩, by simp [intOf]⟩
    | 4, _ =>
      have hv := HB.out
      have ht := HT.out
      have hacc : 0 ≤ accP f v now 4 ∧ accP f v now 4 ≤ 2000000000000000000 := by simp only [accP]; omega
      have HM := Lib.hid (mul_fit f.shr v.shr (by unfold inI; omega) (by unfold inI; omega) (by unfold inI; omega))
      have HS := Lib.hid (most_fit (accP f v now 4) ((f.shr * v.shr).tdiv 1000) (by unfold inI; omega) (by unfold inI; omega) (by unfold inI; omega))
      have hw2 : IntKind.i64.wrap ((f.shr * v.shr).tdiv 1000) = (f.shr * v.shr).tdiv 1000 := by rw [IntKind.wrap_i64]; omega
      have e : accP f v now 4 + (f.shr * v.shr).tdiv 1000 = accP f v now 5 := rfl
      have E := Lib.hid e
      have hq := ht.2.2.2.1.1
      clear hv ht hacc e
      go_wp2_with (first
        | (refine wpList_alloc_b rfl (some 9) rfl 55 #[.int .i64 0, .int .i64 0, .int .i64 0] (by kernel_rfl) ?_; intro g5 W5 hb hB hg; have H5 := Lib.hid (And.intro (below_then HL.out HL.out.size hb) hB); have HG := Lib.hid (Nat.le_trans HL.out.size hg); clear hb hB hg HL)
        | (refine wpList_store_at rfl 55 _ _ rfl H5.out.2 (.agg #[.int .i64 f.shr, .int .i64 v.shr, .int .i64 1000]) rfl rfl (by kernel_rfl) (Nat.le_of_ble_eq_true rfl) (by kernel_rfl) ?_; intro W6 hB hP; have HL6 := Lib.hid (below_put H5.out.1 hP HG.out); obtain ⟨r1, r2, r3⟩ := (show Blk W6 g5 _ #[.int .i64 f.shr, .int .i64 v.shr, .int .i64 1000] from hB).rules; clear hB hP H5))
      refine (HM.out _).mono ?_
      rintro e w' ⟨rfl, rfl⟩
      go_wp2_with fail
      refine (HS.out _).mono ?_
      rintro e w' ⟨rfl, rfl⟩
      go_wp2_with fail
      refine ⟨⟨5, by omega, rfl, by rw [E.out], HL6.out⟩, by simp [intOf]⟩
end Go.Proofs.Ytmilcgfcmeahgaa
