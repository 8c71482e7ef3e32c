/- Prio: the plain laws; alive. -/
import Derived.Test.YtmilcgfcmeahgaaP8
import Derived.Test.YtmilcgfcmeahgaaEq
set_option linter.unusedVariables false
namespace Go.Proofs.Ytmilcgfcmeahgaa
open Go.RowKit

theorem ord_iff (a b : Fa) (v : We) (now : Int) : ordV a b v now < 0 ↔ (ptsF b v now < ptsF a v now ∨ ptsF b v now = ptsF a v now ∧ (a.sub < b.sub ∨ a.sub = b.sub ∧ a.id < b.id)) := by
  unfold ordV orV cmpV
  generalize ptsF a v now = p
  generalize ptsF b v now = q
  repeat' split
  all_goals omega
theorem ahdB_comm (a b : Fa) (v : We) (now : Int) : ahdB a b v now = ahdB b a v now := by
  unfold ahdB
  cases rightF a <;> cases rightF b <;> cases mayW v now <;> rfl
theorem ahdE_comm (a b : Fa) (v : We) (now : Int) : ahdE a b v now = ahdE b a v now := by
  unfold ahdE; rw [ahdB_comm]
theorem ahdE_zero {a b : Fa} {v : We} {now : Int} (h : ahdE a b v now = 0) : ahdB a b v now = true := by
  unfold ahdE at h
  split at h
  · assumption
  · omega
theorem ahdE_some {a b : Fa} {v : We} {now : Int} (h : ahdE a b v now ≠ 0) : ahdE a b v now = 1 := by
  unfold ahdE at *
  split
  · rename_i h2; rw [if_pos h2] at h; exact absurd rfl h
  · rfl
theorem ahdV_iff {a b : Fa} {v : We} {now : Int} (h : ahdE a b v now = 0) : ahdV a b v now = true ↔ (ptsF b v now < ptsF a v now ∨ ptsF b v now = ptsF a v now ∧ (a.sub < b.sub ∨ a.sub = b.sub ∧ a.id < b.id)) := by
  unfold ahdV
  rw [ahdE_zero h, Bool.true_and, decide_eq_true_iff, ord_iff]
/-- One comes ahead. -/
theorem law_one {a b : Fa} {v : We} {now : Int} (h : ahdE a b v now = 0) (hi : a.id ≠ b.id) : (ahdV a b v now == ahdV b a v now) = false := by
  have h2 := h
  rw [ahdE_comm] at h2
  have e1 := ahdV_iff h
  have e2 := ahdV_iff h2
  cases x : ahdV a b v now <;> cases y : ahdV b a v now <;> simp [x, y] at e1 e2 ⊢ <;> omega
theorem law_self {a : Fa} {v : We} {now : Int} (h : ahdE a a v now = 0) : ahdV a a v now = false := by
  have e1 := ahdV_iff h
  cases x : ahdV a a v now
  · rfl
  · rw [x] at e1; have := e1.1 rfl; omega
theorem law_goes {a b c : Fa} {v : We} {now : Int} (h1 : ahdE a b v now = 0) (h2 : ahdE b c v now = 0) (h3 : ahdE a c v now = 0) (x : ahdV a b v now = true) (y : ahdV b c v now = true) : ahdV a c v now = true := by
  have e1 := (ahdV_iff h1).1 x
  have e2 := (ahdV_iff h2).1 y
  rw [ahdV_iff h3]
  omega

theorem age_mono (f : Fa) (v : We) {e l : Int} (h : e ≤ l) (hv : 1 ≤ v.mst) : ageF f v e ≤ ageF f v l := by
  unfold ageF
  repeat' split
  all_goals omega
theorem tdiv_mono {a b d : Int} (h0 : 0 ≤ a) (h : a ≤ b) (hd : 1 ≤ d) : a.tdiv d ≤ b.tdiv d := by
  rw [Int.tdiv_eq_ediv_of_nonneg h0, Int.tdiv_eq_ediv_of_nonneg (by omega)]
  exact Int.ediv_le_ediv (by omega) h
abbrev olderF (f : Fa) : Fa := ⟨f.id, 0, f.nod, f.prt, f.qos, f.shr⟩
theorem poE_zero {f : Fa} {v : We} {now : Int} (h : poE f v now = 0) : rightF f = true ∧ mayW v now = true := by
  unfold poE at h
  split at h
  · rename_i h2; simpa using h2
  · omega
theorem older_right {f : Fa} (h : rightF f = true) : rightF (olderF f) = true := by
  simp [rightF, inB] at h ⊢; omega
theorem age_older {f : Fa} (v : We) (now : Int) (h : rightF f = true) (hv : 1 ≤ v.mst) : ageF f v now ≤ ageF (olderF f) v now := by
  have := (right_bounds h).2.1
  unfold ageF
  show _ ≤ (if now - 0 < 0 then 0 else if v.mst < now - 0 then v.mst else now - 0)
  repeat' split
  all_goals omega
theorem pts_mono {f g : Fa} {v : We} {e l : Int} (hm : mayW v e = true) (h0 : 0 ≤ ageF f v e) (h : ageF f v e ≤ ageF g v l) (h1 : f.nod = g.nod) (h2 : f.prt = g.prt) (h3 : f.qos = g.qos) (h4 : f.shr = g.shr) : ptsF f v e ≤ ptsF g v l := by
  obtain ⟨⟨a1, a2⟩, _, _, _, _, ⟨m1, m2⟩, _⟩ := may_bounds hm
  unfold ptsF
  have := tdiv_mono (Int.mul_nonneg h0 a1) (Int.mul_le_mul_of_nonneg_right h a1) m1
  rw [h1, h2, h3, h4]
  omega
theorem law_age {f : Fa} {v : We} {e l : Int} (h : e ≤ l) (h1 : poE f v e = 0) (h2 : poE f v l = 0) : poV f v e ≤ poV f v l ∧ poV f v l ≤ poV (olderF f) v l ∧ poE (olderF f) v l = 0 ∧ 0 ≤ poV f v e := by
  obtain ⟨r1, m1⟩ := poE_zero h1
  obtain ⟨r2, m2⟩ := poE_zero h2
  have ro := older_right r1
  have e1 : poV f v e = ptsF f v e := by unfold poV; rw [r1, m1]; rfl
  have e2 : poV f v l = ptsF f v l := by unfold poV; rw [r1, m2]; rfl
  have e3 : poV (olderF f) v l = ptsF (olderF f) v l := by unfold poV; rw [ro, m2]; rfl
  have e4 : poE (olderF f) v l = 0 := by unfold poE; rw [ro, m2]; rfl
  have hv := (may_bounds m1).2.2.2.2.2.1.1
  have g1 := age_bounds f v e hv
  have g2 := age_bounds f v l hv
  rw [e1, e2, e3]
  refine ⟨pts_mono m1 g1.1 (age_mono f v h hv) rfl rfl rfl rfl, pts_mono m2 g2.1 (age_older v l r1 hv) rfl rfl rfl rfl, e4, ?_⟩
  have ht := term_bounds f v e r1 m1
  unfold ptsF
  omega

/-! ### the same facts -/
def eqFa (a b : Fa) : Bool := a.id == b.id && (a.sub == b.sub && (a.nod == b.nod && (a.prt == b.prt && (a.qos == b.qos && a.shr == b.shr))))
theorem eqFa_eq {a b : Fa} (h : eqFa a b = true) : a = b := by
  unfold eqFa at h
  simp only [Bool.and_eq_true, beq_iff_eq] at h
  obtain ⟨h1, h2, h3, h4, h5, h6⟩ := h
  cases a; cases b; simp_all
theorem eqFa_id {a b : Fa} (h : a.id ≠ b.id) : eqFa a b = false := by unfold eqFa; simp [h]
set_option maxHeartbeats 4000000 in
theorem eqFa_run (a b : Fa) (w : World) : (Op.equalIn 10000 29 (.agg (fA a)) (.agg (fA b))).run Try.prog w = .ok (eqFa a b) w := by
  show (Op.equalIn (9999 + 1) 29 _ _).run Try.prog w = _
  rw [run_equalIn_struct w 9999 _ _ _ (by kernel_rfl) (by kernel_rfl)]
  have e : ∀ x y : Int, (Op.equalIn 9999 3 (.int .i64 x) (.int .i64 y)).run Try.prog w = .ok (x == y) w := fun x y => run_equalIn_int w 9998 3 .i64 .i64 x y Try.underlying3
  have p : ∀ (c : Fa), (part 3 (fA c) 0).run Try.prog w = .ok (.int .i64 c.id) w ∧ (part 3 (fA c) 1).run Try.prog w = .ok (.int .i64 c.sub) w ∧ (part 3 (fA c) 2).run Try.prog w = .ok (.int .i64 c.nod) w ∧
      (part 3 (fA c) 3).run Try.prog w = .ok (.int .i64 c.prt) w ∧ (part 3 (fA c) 4).run Try.prog w = .ok (.int .i64 c.qos) w ∧ (part 3 (fA c) 5).run Try.prog w = .ok (.int .i64 c.shr) w := fun c => ⟨by kernel_rfl, by kernel_rfl, by kernel_rfl, by kernel_rfl, by kernel_rfl, by kernel_rfl⟩
  obtain ⟨a0, a1, a2, a3, a4, a5⟩ := p a
  obtain ⟨b0, b1, b2, b3, b4, b5⟩ := p b
  have hf : ∃ n0 n1 n2 n3 n4 n5 : String, (n0 ≠ "_" ∧ n1 ≠ "_" ∧ n2 ≠ "_" ∧ n3 ≠ "_" ∧ n4 ≠ "_" ∧ n5 ≠ "_") ∧ ∃ e0 e1 e2 e3 e4 e5 : Bool, (Try.prog.fieldsOf 29).toList.map (fun f => (f.name, f.type, f.offset)) = [(n0, 3, 0), (n1, 3, 1), (n2, 3, 2), (n3, 3, 3), (n4, 3, 4), (n5, 3, 5)] :=
    ⟨"Id", "Submitted", "Nodes", "Part", "Qos", "Share", by decide, true, true, true, true, true, true, by kernel_rfl⟩
  obtain ⟨n0, n1, n2, n3, n4, n5, ⟨k0, k1, k2, k3, k4, k5⟩, _, _, _, _, _, _, hf⟩ := hf
  obtain ⟨fs, hfs⟩ : ∃ fs, fs = (Try.prog.fieldsOf 29).toList := ⟨_, rfl⟩
  rw [← hfs] at hf ⊢
  match fs, hf with
  | [f0, f1, f2, f3, f4, f5], hf =>
    simp only [List.map_cons, List.map_nil, List.cons.injEq, Prod.mk.injEq, and_true] at hf
    obtain ⟨⟨x0, y0, z0⟩, ⟨x1, y1, z1⟩, ⟨x2, y2, z2⟩, ⟨x3, y3, z3⟩, ⟨x4, y4, z4⟩, ⟨x5, y5, z5⟩⟩ := hf
    simp only [Op.eqFields, x0, x1, x2, x3, x4, x5, y0, y1, y2, y3, y4, y5, z0, z1, z2, z3, z4, z5, ne_eq, k0, k1, k2, k3, k4, k5, not_false_eq_true, if_true, Sem.run_bind, a0, a1, a2, a3, a4, a5, b0, b1, b2, b3, b4, b5, Result.andThen_ok, e, Sem.run_ite, Sem.run_pure]
    unfold eqFa
    cases (a.id == b.id) <;> cases (a.sub == b.sub) <;> cases (a.nod == b.nod) <;> cases (a.prt == b.prt) <;> cases (a.qos == b.qos) <;> cases (a.shr == b.shr) <;> rfl

/-! ### one weight alone -/
def fstB (a b : Fa) : Bool := decide (a.sub < b.sub) || (decide (a.sub = b.sub) && decide (a.id < b.id))
abbrev wNone : We := ⟨0, 0, 0, 0, 0, 1⟩
abbrev wPart : We := ⟨0, 0, 1000, 0, 0, 1⟩
abbrev wQos : We := ⟨0, 0, 0, 1000, 0, 1⟩
abbrev wShare : We := ⟨0, 0, 0, 0, 1000, 1⟩
abbrev wSize : We := ⟨0, 256, 0, 0, 0, 1⟩
theorem tdiv_one {a d : Int} (hd : d ≠ 0) : (a * d).tdiv d = a := Int.mul_tdiv_cancel _ hd
theorem pts_none (f : Fa) (now : Int) : ptsF f wNone now = 0 := by simp [ptsF]
theorem pts_part (f : Fa) (now : Int) : ptsF f wPart now = f.prt := by
  have := tdiv_one (a := f.prt) (d := 1000) (by decide)
  simp [ptsF, this]
theorem pts_qos (f : Fa) (now : Int) : ptsF f wQos now = f.qos := by
  have := tdiv_one (a := f.qos) (d := 1000) (by decide)
  simp [ptsF, this]
theorem pts_share (f : Fa) (now : Int) : ptsF f wShare now = f.shr := by
  have := tdiv_one (a := f.shr) (d := 1000) (by decide)
  simp [ptsF, this]
theorem pts_size (f : Fa) (now : Int) : ptsF f wSize now = f.nod := by
  have := tdiv_one (a := f.nod) (d := 256) (by decide)
  simp [ptsF, this]
theorem may_alone {now : Int} (h0 : 0 ≤ now) (h1 : now ≤ 1099511627776) : mayW wNone now = true ∧ mayW wPart now = true ∧ mayW wQos now = true ∧ mayW wShare now = true ∧ mayW wSize now = true := by
  have : inB now 0 1099511627776 = true := inB_yes h0 h1
  unfold mayW
  refine ⟨?_, ?_, ?_, ?_, ?_⟩ <;> (rw [this]; rfl)
theorem alone_of {a b : Fa} {v : We} {now : Int} {x y : Int} (ha : rightF a = true) (hb : rightF b = true) (hm : mayW v now = true) (hx : ptsF a v now = x) (hy : ptsF b v now = y) :
    ahdE a b v now = 0 ∧ ahdV a b v now = (decide (y < x) || (decide (x = y) && fstB a b)) := by
  have hE : ahdE a b v now = 0 := by unfold ahdE ahdB; rw [ha, hb, hm]; rfl
  refine ⟨hE, ?_⟩
  rw [Bool.eq_iff_iff, ahdV_iff hE, hx, hy]
  simp [fstB]
  omega

set_option maxRecDepth 100000 in
set_option maxHeartbeats 4000000 in
theorem alive_c (w : World) : Calls Try.prog 13 #[] w fun e w' => e = .returned (.bool true) ∧ Below w.heap.size w w' := by
  have hp := points_c ⟨1, 50, 1, 0, 0, 0⟩ ⟨1000, 0, 0, 0, 0, 100⟩ 100
  rw [show poV ⟨1, 50, 1, 0, 0, 0⟩ ⟨1000, 0, 0, 0, 0, 100⟩ 100 = 500 by decide, show poE ⟨1, 50, 1, 0, 0, 0⟩ ⟨1000, 0, 0, 0, 0, 100⟩ 100 = 0 by decide] at hp
  have HP := Lib.hid hp
  clear hp
  go_enter Try.func13, Try.ntmps13
  go_wp2_with fail
  refine (HP.out _).mono ?_
  rintro e w1 ⟨rfl, hb⟩
  have HS := Lib.hid hb
  clear hb
  go_wp2
  go_ret
  exact ⟨rfl, HS.out⟩
end Go.Proofs.Ytmilcgfcmeahgaa
