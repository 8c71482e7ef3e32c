/- Prio: the document's points. -/
import Derived.Test.YtmilcgfcmeahgaaP2
import Derived.BigQuiet
set_option linter.unusedVariables false
namespace Go.Proofs.Ytmilcgfcmeahgaa
open Go.RowKit

def ageF (f : Fa) (v : We) (now : Int) : Int := if now - f.sub < 0 then 0 else if v.mst < now - f.sub then v.mst else now - f.sub
def ptsF (f : Fa) (v : We) (now : Int) : Int := (ageF f v now * v.age).tdiv v.mst + (f.nod * v.siz).tdiv 256 + (f.prt * v.prt).tdiv 1000 + (f.qos * v.qos).tdiv 1000 + (f.shr * v.shr).tdiv 1000
def poV (f : Fa) (v : We) (now : Int) : Int := if rightF f && mayW v now then ptsF f v now else 0
def poE (f : Fa) (v : We) (now : Int) : Int := if rightF f && mayW v now then 0 else 1
theorem right_bounds {f : Fa} (h : rightF f = true) : (1 ≤ f.id ∧ f.id ≤ 1000000) ∧ (0 ≤ f.sub ∧ f.sub ≤ 1099511627776) ∧ (1 ≤ f.nod ∧ f.nod ≤ 256) ∧ (0 ≤ f.prt ∧ f.prt ≤ 1000) ∧ (0 ≤ f.qos ∧ f.qos ≤ 1000) ∧ (0 ≤ f.shr ∧ f.shr ≤ 1000) := by
  simp [rightF, inB] at h
  omega
theorem may_bounds {v : We} {now : Int} (h : mayW v now = true) : (0 ≤ v.age ∧ v.age ≤ 1000000) ∧ (0 ≤ v.siz ∧ v.siz ≤ 1000000) ∧ (0 ≤ v.prt ∧ v.prt ≤ 1000000) ∧ (0 ≤ v.qos ∧ v.qos ≤ 1000000) ∧ (0 ≤ v.shr ∧ v.shr ≤ 1000000) ∧ (1 ≤ v.mst ∧ v.mst ≤ 1099511627776) ∧ (0 ≤ now ∧ now ≤ 1099511627776) := by
  simp [mayW, inB] at h
  omega
theorem mul_bound {a b A B : Int} (h0 : 0 ≤ a) (h1 : a ≤ A) (h2 : 0 ≤ b) (h3 : b ≤ B) : 0 ≤ a * b ∧ a * b ≤ A * B := ⟨Int.mul_nonneg h0 h2, Int.mul_le_mul h1 h3 h2 (by omega)⟩
theorem div_bound {a d A : Int} (h0 : 0 ≤ a) (h1 : a ≤ A) (hd : 1 ≤ d) : 0 ≤ a.tdiv d ∧ a.tdiv d ≤ A := by
  have := tdiv_bounds a d hd
  omega
theorem age_bounds (f : Fa) (v : We) (now : Int) (h : 1 ≤ v.mst) : 0 ≤ ageF f v now ∧ ageF f v now ≤ v.mst := by unfold ageF; split <;> (try split) <;> omega

set_option maxRecDepth 100000 in
set_option maxHeartbeats 4000000 in
theorem rpoints_c (f : Fa) (v : We) (now : Int) (w : World) : Calls Try.prog 10 #[fV f, wV v, .int .i64 now] w fun e w' => e = .returned (.tuple #[.int .i64 (poV f v now), .int .i64 (poE f v now)]) ∧ Below w.heap.size w w' := by
  have HR := Lib.hid (rright_c f)
  have HM := Lib.hid (rmay_c v now)
  go_enter Try.func10, Try.ntmps10
  have H0 := Lib.hid (Bs.nil w)
  go_wp2_with (first
    | (refine wpList_alloc_b rfl (some 3) rfl 23 (fA f) (by kernel_rfl) ?_; intro g1 W1 hb hB hg; have H1 := Lib.hid (H0.out.new hb hB hg); clear hb hB hg H0)
    | (refine wpList_alloc_b rfl (some 4) rfl 25 (wA v) (by kernel_rfl) ?_; intro g2 W2 hb hB hg; have H2 := Lib.hid (H1.out.new hb hB hg); clear hb hB hg H1)
    | (refine wpList_load_at rfl 23 _ rfl (H2.out.at_ 0 rfl) 6 (fV f) rfl _ Try.underlying23 rfl (by kernel_rfl) (Nat.le_of_ble_eq_true rfl) rfl ?_))
  refine (HR.out _).mono ?_
  rintro e w3 ⟨rfl, hb⟩
  have H3 := Lib.hid (H2.out.after hb)
  clear hb H2
  cases hr : rightF f
  · have e1 : poV f v now = 0 := by unfold poV; rw [hr]; rfl
    have e2 : poE f v now = 1 := by unfold poE; rw [hr]; rfl
    have E1 := Lib.hid e1
    have E2 := Lib.hid e2
    clear e1 e2 HR HM
    go_wp2
    go_ret2
    exact ⟨ret_two E1.out.symm E2.out.symm, H3.out.below⟩
  · go_wp2_with (refine wpList_load_g (by kernel_rfl) 25 _ rfl (H3.out.at_ 1 rfl) 6 (wV v) rfl _ Try.underlying25 rfl (by kernel_rfl) (Nat.le_of_ble_eq_true rfl) rfl ?_)
    refine (HM.out _).mono ?_
    rintro e w4 ⟨rfl, hb⟩
    have H4 := Lib.hid (H3.out.after hb)
    clear hb H3
    cases hm : mayW v now
    · have e1 : poV f v now = 0 := by unfold poV; rw [hm, Bool.and_false]; rfl
      have e2 : poE f v now = 1 := by unfold poE; rw [hm, Bool.and_false]; rfl
      have E1 := Lib.hid e1
      have E2 := Lib.hid e2
      clear e1 e2 HR HM
      go_wp2
      go_ret2
      exact ⟨ret_two E1.out.symm E2.out.symm, H4.out.below⟩
    · have e1 : poV f v now = ptsF f v now := by unfold poV; rw [hr, hm]; rfl
      have e2 : poE f v now = 0 := by unfold poE; rw [hr, hm]; rfl
      have E1 := Lib.hid e1
      have E2 := Lib.hid e2
      clear e1 e2 HR HM
      obtain ⟨⟨i1, i2⟩, ⟨s1, s2⟩, ⟨n1, n2⟩, ⟨r1, r2⟩, ⟨q1, q2⟩, ⟨h1, h2⟩⟩ := right_bounds hr
      obtain ⟨⟨a1, a2⟩, ⟨z1, z2⟩, ⟨t1, t2⟩, ⟨u1, u2⟩, ⟨x1, x2⟩, ⟨m1, m2⟩, ⟨c1, c2⟩⟩ := may_bounds hm
      obtain ⟨b1, b2⟩ := mul_bound (show 0 ≤ f.nod by omega) n2 z1 z2
      obtain ⟨b3, b4⟩ := mul_bound r1 r2 t1 t2
      obtain ⟨b5, b6⟩ := mul_bound q1 q2 u1 u2
      obtain ⟨b7, b8⟩ := mul_bound h1 h2 x1 x2
      obtain ⟨g3, g4⟩ := age_bounds f v now m1
      obtain ⟨b9, b10⟩ := mul_bound g3 (Int.le_trans g4 m2) a1 a2
      obtain ⟨d1, d2⟩ := div_bound b9 b10 m1
      obtain ⟨d3, d4⟩ := div_bound b1 b2 (show (1 : Int) ≤ 256 by decide)
      obtain ⟨d5, d6⟩ := div_bound b3 b4 (show (1 : Int) ≤ 1000 by decide)
      obtain ⟨d7, d8⟩ := div_bound b5 b6 (show (1 : Int) ≤ 1000 by decide)
      obtain ⟨d9, d10⟩ := div_bound b7 b8 (show (1 : Int) ≤ 1000 by decide)
      have hmz : v.mst ≠ 0 := by omega
      obtain ⟨p1, p2, p3⟩ := H4.out.rules 0 rfl
      obtain ⟨p4, p5, p6⟩ := H4.out.rules 1 rfl
      have hp : ptsF f v now = (ageF f v now * v.age).tdiv v.mst + (f.nod * v.siz).tdiv 256 + (f.prt * v.prt).tdiv 1000 + (f.qos * v.qos).tdiv 1000 + (f.shr * v.shr).tdiv 1000 := rfl
      rw [hp] at E1
      clear hp hr hm
      by_cases hn : now - f.sub < 0
      · have ha : ageF f v now = 0 := by unfold ageF; rw [if_pos hn]
        rw [ha, Int.zero_mul, Int.zero_tdiv, Int.zero_add] at E1
        clear ha g3 g4 b9 b10 d1 d2
        go_wp2_with fail
        go_quiet (fail)
        go_wp2
        go_ret2
        exact ⟨ret_two E1.out.symm E2.out.symm, (H4.out.drewN _).below⟩
      by_cases hn2 : v.mst < now - f.sub
      · have ha : ageF f v now = v.mst := by unfold ageF; rw [if_neg hn, if_pos hn2]
        rw [ha] at E1 b9 b10
        rw [Int.mul_tdiv_cancel_left _ hmz] at E1
        clear ha g3 g4 d1 d2
        go_wp2_with fail
        go_quiet (fail)
        go_wp2
        go_ret2
        exact ⟨ret_two E1.out.symm E2.out.symm, (H4.out.drewN _).below⟩
      · have ha : ageF f v now = now - f.sub := by unfold ageF; rw [if_neg hn, if_neg hn2]
        rw [ha] at E1 b9 b10 d1 d2
        clear ha g3 g4
        go_wp2_with fail
        go_quiet (fail)
        go_wp2
        go_ret2
        exact ⟨ret_two E1.out.symm E2.out.symm, (H4.out.drewN _).below⟩
end Go.Proofs.Ytmilcgfcmeahgaa
