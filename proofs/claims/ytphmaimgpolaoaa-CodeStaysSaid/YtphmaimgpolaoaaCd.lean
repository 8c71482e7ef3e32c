/- Code: a slice of acts; '==' of sets; the law CodeStays. -/
import Derived.Test.YtphmaimgpolaoaaCc
set_option linter.unusedVariables false
namespace Go.Proofs.Ytphmaimgpolaoaa
open Go.RowKit Go.Sort

/-- A load of an aggregate whose cells are known one by one. -/
theorem wpList_load_ad {P : Program} {ops : Array Oper} {rest : List Oper} {o : Oper} {a : Act} {w : World} {Q : Exit → Act → World → Prop} (hw : Region.wanted o (yielded ops a.tmps) = true) (ty : TypeId) (x : Operand) (ho : o.op = .load ty x)
    (ad : Addr) (vs : List Value) (hc : ∀ j v, vs[j]? = some v → w.cell? (ad.add j) = some v) (hx : a.eval x = .pointer (some ad)) (d : TypeDesc) (v : Value) (hv : Value.agg vs.toArray = v)
    (hu : P.underlying ty = some d) (hd : (match d with | .struct _ | .array _ _ => true | _ => false) = true) (hi : (P.info? ty).map (·.size) = some vs.length)
    (h : wpList P ops Q rest (a.put o.dst v) w) : wpList P ops Q (o :: rest) a w :=
  wpList_wanted hw fun _ hK => by
    subst hv
    have hl : (loadCells ad vs.length).run P w = .ok vs.toArray w := run_loadCells_list (P := P) w ad vs hc
    have hr : (loadVar ty ad).run P w = .ok (.agg vs.toArray) w := by
      cases hq : P.info? ty with
      | none => simp [hq] at hi
      | some i =>
        have hs : i.size = vs.length := by simpa [hq] using hi
        have hagg : (isAgg ty).run P w = .ok true w := by
          unfold isAgg
          rw [Sem.run_bind, run_underlying hu w]
          cases d <;> simp_all
        simp [loadVar, Sem.run_bind, hagg, sizeOf, typeInfo, hq, hs, hl]
    unfold Oper.wp execOp
    simp only [ho, hx, Instr.loadAt, Instr.sureAddr, Sem.run_bind, Sem.run_pure, Result.andThen_ok, hr]
    exact hK _ _ h
theorem eqNd_run (a0 a1 a2 a3 b0 b1 b2 b3 : Int) (w : World) :
    (Op.equalIn 10000 41 (.agg #[.int .u64 a0, .int .u64 a1, .int .u64 a2, .int .u64 a3]) (.agg #[.int .u64 b0, .int .u64 b1, .int .u64 b2, .int .u64 b3])).run Try.prog w = .ok (a0 == b0 && (a1 == b1 && (a2 == b2 && a3 == b3))) w := by
  have e : ∀ a b : Int, (Op.equalIn 9999 39 (.int .u64 a) (.int .u64 b)).run Try.prog w = .ok (a == b) w := fun a b => run_equalIn_int w 9998 39 .u64 .u64 a b Try.underlying39
  have hs : (sizeOf 39).run Try.prog w = .ok 1 w := by kernel_rfl
  have p : ∀ (x0 x1 x2 x3 : Int), (part 39 #[.int .u64 x0, .int .u64 x1, .int .u64 x2, .int .u64 x3] (0 * 1)).run Try.prog w = .ok (.int .u64 x0) w ∧ (part 39 #[.int .u64 x0, .int .u64 x1, .int .u64 x2, .int .u64 x3] (1 * 1)).run Try.prog w = .ok (.int .u64 x1) w ∧
      (part 39 #[.int .u64 x0, .int .u64 x1, .int .u64 x2, .int .u64 x3] (2 * 1)).run Try.prog w = .ok (.int .u64 x2) w ∧ (part 39 #[.int .u64 x0, .int .u64 x1, .int .u64 x2, .int .u64 x3] (3 * 1)).run Try.prog w = .ok (.int .u64 x3) w := fun x0 x1 x2 x3 =>
    ⟨by kernel_rfl, by kernel_rfl, by kernel_rfl, by kernel_rfl⟩
  show (Op.equalIn (9999 + 1) 41 _ _).run Try.prog w = _
  unfold Op.equalIn
  simp only [Sem.run_bind, run_underlying Try.underlying41, Result.andThen_ok, hs]
  rw [Std.Legacy.Range.forIn_eq_forIn_range']
  simp only [Std.Legacy.Range.size]
  cases h0 : (a0 == b0) <;> cases h1 : (a1 == b1) <;> cases h2 : (a2 == b2) <;> cases h3 : (a3 == b3) <;> simp [List.range', p, e, h0, h1, h2, h3]
structure Ac where
  kind : Int
  lo : Int
  hi : Int
abbrev acL (a : Ac) : List Value := [.int .u8 a.kind, .int .i64 a.lo, .int .i64 a.hi]
abbrev acA (a : Ac) : Array Value := #[.int .u8 a.kind, .int .i64 a.lo, .int .i64 a.hi]
abbrev acV (a : Ac) : Value := .agg (acA a)
/-- The slice value '.slice A n c' reads as these acts. -/
def ReadsAc (w : World) (A : Option Addr) (n : Nat) (l : List Ac) : Prop :=
  l.length = n ∧ n ≤ 9223372036854775807 ∧ (∀ a ∈ l, 0 ≤ a.kind ∧ a.kind ≤ 255) ∧ (0 < n → ∃ ad, A = some ad ∧ ∀ i, i < n → ∀ j v, (acL (l.getD i ⟨0, 0, 0⟩))[j]? = some v → w.cell? ((ad.add (i * 3)).add j) = some v)
theorem ReadsAc.below {w w' : World} {A : Option Addr} {n : Nat} {xs : List Ac} (h : ReadsAc w A n xs) (hb : Below w.heap.size w w') : ReadsAc w' A n xs :=
  ⟨h.1, h.2.1, h.2.2.1, fun hn => by
    obtain ⟨ad, e, hc⟩ := h.2.2.2 hn
    exact ⟨ad, e, fun i hi j v hv => (hb.cell (block_lt_of_cell (hc i hi j v hv))).trans (hc i hi j v hv)⟩⟩
theorem int_no {bs : List UInt8} {p : Nat} {y f : Int} (hw : wellB y f = false) : intR bs p y f = (0, p, y, f) := by
  unfold intR pkR; rw [if_pos hw]; simp only; rw [hw]; rfl
theorem in_no {bs : List UInt8} {p : Nat} {y f lo hi : Int} (hw : wellB y f = false) : inR bs p y f lo hi = (0, p, y, f) := by
  unfold inR pkR; rw [if_pos hw]; simp only; rw [hw]; rfl
theorem text_no {bs : List UInt8} {p : Nat} {y f m : Int} (hw : wellB y f = false) : textR bs p y f m = ([], p, y, f) := by
  unfold textR pkR; rw [if_pos hw]; simp only; rw [hw]; rfl
theorem nodes_no {bs : List UInt8} {p : Nat} {y f : Int} (hw : wellB y f = false) : nodesR bs p y f = (fun _ => 0, p, y, f) := by
  unfold nodesR; rw [hw]; rfl
theorem end_no {p n : Nat} {y f : Int} (hw : wellB y f = false) : endR p n y f = (y, f) := by
  unfold endR; rw [if_neg (by rw [hw]; simp)]
theorem int_le {bs : List UInt8} {p : Nat} {y f : Int} {v : Int} {q : Nat} {y' f' : Int} (hp : p ≤ bs.length) (h : intR bs p y f = (v, q, y', f')) : p ≤ q ∧ q ≤ bs.length := by
  obtain ⟨v1, q1, y1, f1, ht⟩ : ∃ v1 q1 y1 f1, pkR bs p y f = (v1, q1, y1, f1) := ⟨_, _, _, _, rfl⟩
  unfold intR at h
  rw [ht] at h
  simp only at h
  split at h
  · rename_i hw
    have := pk_le hp ht hw
    simp only [Prod.mk.injEq] at h
    omega
  · simp only [Prod.mk.injEq] at h
    omega
theorem in_le {bs : List UInt8} {p : Nat} {y f lo hi : Int} {v : Int} {q : Nat} {y' f' : Int} (hp : p ≤ bs.length) (h : inR bs p y f lo hi = (v, q, y', f')) : p ≤ q ∧ q ≤ bs.length := by
  obtain ⟨v1, q1, y1, f1, ht⟩ : ∃ v1 q1 y1 f1, pkR bs p y f = (v1, q1, y1, f1) := ⟨_, _, _, _, rfl⟩
  unfold inR at h
  rw [ht] at h
  simp only at h
  split at h
  · rename_i hw
    have := pk_le hp ht hw
    split at h <;> simp only [Prod.mk.injEq] at h <;> omega
  · simp only [Prod.mk.injEq] at h
    omega
theorem text_le {bs : List UInt8} {p : Nat} {y f m : Int} {v : List UInt8} {q : Nat} {y' f' : Int} (hp : p ≤ bs.length) (h : textR bs p y f m = (v, q, y', f')) : p ≤ q ∧ q ≤ bs.length := by
  obtain ⟨v1, q1, y1, f1, ht⟩ : ∃ v1 q1 y1 f1, pkR bs p y f = (v1, q1, y1, f1) := ⟨_, _, _, _, rfl⟩
  unfold textR at h
  rw [ht] at h
  simp only at h
  split at h
  · rename_i hw
    have := pk_le hp ht hw
    split at h
    · simp only [Prod.mk.injEq] at h; omega
    · split at h <;> simp only [Prod.mk.injEq] at h <;> omega
  · simp only [Prod.mk.injEq] at h
    omega
theorem nodes_le {bs : List UInt8} {p : Nat} {y f : Int} {v : Nat → Nat} {q : Nat} {y' f' : Int} (hp : p ≤ bs.length) (h : nodesR bs p y f = (v, q, y', f')) : p ≤ q ∧ q ≤ bs.length := by
  unfold nodesR at h
  split at h
  · split at h <;> simp only [Prod.mk.injEq] at h <;> omega
  · simp only [Prod.mk.injEq] at h
    omega
set_option maxRecDepth 100000 in
set_option maxHeartbeats 60000000 in
theorem codeStays_w (A : Option Addr) (n c : Nat) (bs : List UInt8) (B : Option Addr) (m d : Nat) (acts : List Ac) (w : World) (hR : ReadsB w A n bs) (hs : n ≤ 140737488355328) (hc : n ≤ c) (hA : ReadsAc w B m acts) (hm : m ≤ 140737488355328) :
    Calls Try.prog 5 #[.slice A n c, .slice B m d] w fun e w' => e = .returned (.bool true) ∧ Below w.heap.size w w' := by
  have HR := Lib.hid hR
  have HL := Lib.hid hR.1
  have HA := Lib.hid hA
  have HN := Lib.hid (And.intro hs hc)
  have HM := Lib.hid hm
  clear hR hA hs hc hm
  have HS0 := Lib.hid (Ms.nil w noB)
  go_enter Try.func5, Try.ntmps5
  go_wp2_with fail
  refine (new_c A n c _).mono ?_
  rintro e W1 ⟨r, rfl, hM⟩
  have HS1 := Lib.hid (HS0.out.made hM)
  clear hM HS0
  go_wp2_with fail
  refine (alive_c _).mono ?_
  rintro e W2 ⟨rfl, hb⟩
  have HS2 := Lib.hid (HS1.out.after hb)
  clear hb HS1
  go_wp2_with fail
  go_loopw [23] (fun i wr => ∃ (k p : Nat) (y f : Int), k ≤ m ∧ p ≤ n ∧ i = .int .i64 k ∧ Ms w noB [blkR r A n c p y f] wr) (fun i _ => m - (intOf i).toNat)
  case atStart => exact ⟨0, 0, 0, 0, by omega, by omega, rfl, HS2.out⟩
  case round =>
    obtain ⟨k, p, y, f, hk, hp, rfl, hS⟩ := hrel
    clear HS2
    have HS3 := Lib.hid hS
    clear hS
    have hkb : (k : Int) ≤ 140737488355328 := by have := HM.out; omega
    have hpz : ¬ ((n - p : Nat) : Int) < 0 := by omega
    by_cases hlt : k < m
    · have hltI : (k : Int) < (m : Int) := by omega
      obtain ⟨ad, hBe, hx⟩ := (HA.out.below HS3.out.below).2.2.2 (by omega)
      have hcell := hx k hlt
      obtain ⟨a, hae⟩ : ∃ a, a = acts.getD k ⟨0, 0, 0⟩ := ⟨_, rfl⟩
      rw [← hae] at hcell
      have HC := Lib.hid hcell
      have hab : 0 ≤ a.kind ∧ a.kind ≤ 255 := by
        rw [hae, List.getD_eq_getElem?_getD, List.getElem?_eq_getElem (show k < acts.length by rw [HA.out.1]; exact hlt)]
        exact HA.out.2.2.1 _ (List.getElem_mem _)
      obtain ⟨ha0, ha1⟩ := hab
      clear hx hcell hae
      subst hBe
      have HI1 := Lib.hid (fun w' => eqNd_run 0 0 0 0 0 0 0 0 w')
      have HI2 := Lib.hid (fun w' => show (Op.equalIn 10000 30 (.agg (fltA y f)) (.agg (fltA y f))).run Try.prog w' = .ok true w' by rw [eqFlt_run]; simp)
      cases hw : wellB y f
      · have HI0 := Lib.hid (fun w' => show (Op.equalIn 10000 30 (.agg (fltA y f)) (.agg (fltA 0 0))).run Try.prog w' = .ok false w' by rw [eqFlt_run]; rw [show (y == 0 && f == 0) = false from hw])
        cases k0 : (a.kind % 5 == 0)
        rotate_left
        · skip
          go_wp2_with (first
            | (refine wpList_load_ad (by kernel_rfl) 50 _ rfl (ad.add (k * 3)) (acL a) HC.out rfl _ (acV a) rfl Try.underlying50 rfl (by kernel_rfl) ?_)
            | (refine wpList_alloc_b rfl (some 7) rfl 50 #[.int .u8 0, .int .i64 0, .int .i64 0] (by kernel_rfl) ?_; intro g4 W4 hb hB hg; have HS4 := Lib.hid (HS3.out.new hb hB hg); clear hb hB hg HS3)
            | (refine wpList_store_at rfl 50 _ _ rfl (HS4.out.at_ 1 rfl) (acV a) rfl rfl (by kernel_rfl) (Nat.le_of_ble_eq_true rfl) (by kernel_rfl) ?_; intro W5 hB hP; have HS5 := Lib.hid (HS4.out.put 1 rfl (new := acA a) hB hP); clear hB hP HS4))
          refine (fault_c r A n c p y f _ (HS5.out.at_ 0 rfl)).mono ?_
          rintro e W6 ⟨rfl, hb⟩
          have HS6 := Lib.hid (HS5.out.after hb)
          clear hb HS5
          go_wp2_with fail
          refine (left_c r A n c p y f _ (HS6.out.at_ 0 rfl) hp (by have := HN.out; omega)).mono ?_
          rintro e W7 ⟨rfl, hb⟩
          have HS7 := Lib.hid (HS6.out.after hb)
          clear hb HS6
          go_wp2_with (first
            | (refine wpList_alloc_b rfl (some 8) rfl 30 (fltA 0 0) (by kernel_rfl) ?_; intro g8 W8 hb hB hg; have HS8 := Lib.hid (HS7.out.new hb hB hg); clear hb hB hg HS7)
            | (refine wpList_store_at rfl 30 _ _ rfl (HS8.out.at_ 2 rfl) (fltV y f) rfl rfl (by kernel_rfl) (Nat.le_of_ble_eq_true rfl) (by kernel_rfl) ?_; intro W9 hB hP; have HS9 := Lib.hid (HS8.out.put 2 rfl (new := fltA y f) hB hP); clear hB hP HS8)
            | (refine wpList_alloc_b rfl (some 12) rfl 41 z4 (by kernel_rfl) ?_; intro g10 W10 hb hB hg; have HS10 := Lib.hid (HS9.out.new hb hB hg); clear hb hB hg HS9)
            | (refine wpList_store_at rfl 41 _ _ rfl (HS10.out.at_ 3 rfl) (.agg z4) rfl rfl (by kernel_rfl) (Nat.le_of_ble_eq_true rfl) (by kernel_rfl) ?_; intro W11 hB hP; have HS11 := Lib.hid (HS10.out.put 3 rfl (new := z4) hB hP); clear hB hP HS10; obtain ⟨r1, r2, r3⟩ := HS11.out.rules 1 rfl))
          refine (rInt_c r A n c p y f bs _ (HS11.out.rdIn 0 rfl HR.out hp HN.out.1 HN.out.2) 0 p y f (int_no hw)).mono ?_
          rintro e W12 ⟨rfl, hM⟩
          have HS12 := Lib.hid (HS11.out.call 0 rfl hM)
          clear hM HS11 r1 r2 r3
          go_wp2_with fail
          refine region_b (Ms w noB _) (by kernel_rfl) (by kernel_rfl) HS12.out ?_
          clear HS12
          intro W14 hS
          have HS14 := Lib.hid hS
          clear hS
          repeat (first | go_big_quiet_skip | (refine wpQuiet_load_b (by kernel_rfl) 30 _ rfl (HS14.out.at_ 2 rfl) 2 (fltV y f) rfl _ Try.underlying30 rfl (by kernel_rfl) (Nat.le_of_ble_eq_true rfl) rfl ?_) | (refine wpQuiet_load_b (by kernel_rfl) 41 _ rfl (HS14.out.at_ 3 rfl) 4 (.agg z4) rfl _ Try.underlying41 rfl (by kernel_rfl) (Nat.le_of_ble_eq_true rfl) rfl ?_) | (refine wpQuiet_neq (by kernel_rfl) 30 _ _ _ rfl rfl rfl (by kernel_rfl) false HI0.out ?_; go_simp) | (refine wpQuiet_neq (by kernel_rfl) 41 _ _ _ rfl rfl rfl (by kernel_rfl) true HI1.out ?_) | (refine wpQuiet_neq (by kernel_rfl) 30 _ _ _ rfl rfl rfl (by kernel_rfl) true HI2.out ?_) | go_big_quiet_step (first | with_reducible exact Calls.regrown_of (left_c r A n c p y f _ ((HS14.out.at_ 0 rfl).after (below_regrown _ _ _)) hp (by have := HN.out; omega)) | with_reducible exact Calls.regrown_of (fault_c r A n c p y f _ ((HS14.out.at_ 0 rfl).after (below_regrown _ _ _)))) | quiet_step (first | with_reducible exact Calls.regrown_of (left_c r A n c p y f _ ((HS14.out.at_ 0 rfl).after (below_regrown _ _ _)) hp (by have := HN.out; omega)) | with_reducible exact Calls.regrown_of (fault_c r A n c p y f _ ((HS14.out.at_ 0 rfl).after (below_regrown _ _ _)))))
          refine wpQuiet_nil ?_
          intro W15 hb
          have HS15 := Lib.hid (HS14.out.after hb)
          clear hb HS14
          go_wp2_with fail
          exact ⟨⟨k + 1, p, y, f, by omega, hp, by go_num, Ms.cut (l := [blkR r A n c p y f]) (k := [.blk g4 _ _, .blk g8 _ _, .blk g10 _ _]) HS15.out⟩, by simp [intOf]; omega⟩
        cases k1 : (a.kind % 5 == 1)
        rotate_left
        · skip
          go_wp2_with (first
            | (refine wpList_load_ad (by kernel_rfl) 50 _ rfl (ad.add (k * 3)) (acL a) HC.out rfl _ (acV a) rfl Try.underlying50 rfl (by kernel_rfl) ?_)
            | (refine wpList_alloc_b rfl (some 7) rfl 50 #[.int .u8 0, .int .i64 0, .int .i64 0] (by kernel_rfl) ?_; intro g4 W4 hb hB hg; have HS4 := Lib.hid (HS3.out.new hb hB hg); clear hb hB hg HS3)
            | (refine wpList_store_at rfl 50 _ _ rfl (HS4.out.at_ 1 rfl) (acV a) rfl rfl (by kernel_rfl) (Nat.le_of_ble_eq_true rfl) (by kernel_rfl) ?_; intro W5 hB hP; have HS5 := Lib.hid (HS4.out.put 1 rfl (new := acA a) hB hP); clear hB hP HS4))
          refine (fault_c r A n c p y f _ (HS5.out.at_ 0 rfl)).mono ?_
          rintro e W6 ⟨rfl, hb⟩
          have HS6 := Lib.hid (HS5.out.after hb)
          clear hb HS5
          go_wp2_with fail
          refine (left_c r A n c p y f _ (HS6.out.at_ 0 rfl) hp (by have := HN.out; omega)).mono ?_
          rintro e W7 ⟨rfl, hb⟩
          have HS7 := Lib.hid (HS6.out.after hb)
          clear hb HS6
          go_wp2_with (first
            | (refine wpList_alloc_b rfl (some 8) rfl 30 (fltA 0 0) (by kernel_rfl) ?_; intro g8 W8 hb hB hg; have HS8 := Lib.hid (HS7.out.new hb hB hg); clear hb hB hg HS7)
            | (refine wpList_store_at rfl 30 _ _ rfl (HS8.out.at_ 2 rfl) (fltV y f) rfl rfl (by kernel_rfl) (Nat.le_of_ble_eq_true rfl) (by kernel_rfl) ?_; intro W9 hB hP; have HS9 := Lib.hid (HS8.out.put 2 rfl (new := fltA y f) hB hP); clear hB hP HS8)
            | (refine wpList_alloc_b rfl (some 12) rfl 41 z4 (by kernel_rfl) ?_; intro g10 W10 hb hB hg; have HS10 := Lib.hid (HS9.out.new hb hB hg); clear hb hB hg HS9)
            | (refine wpList_store_at rfl 41 _ _ rfl (HS10.out.at_ 3 rfl) (.agg z4) rfl rfl (by kernel_rfl) (Nat.le_of_ble_eq_true rfl) (by kernel_rfl) ?_; intro W11 hB hP; have HS11 := Lib.hid (HS10.out.put 3 rfl (new := z4) hB hP); clear hB hP HS10; obtain ⟨r1, r2, r3⟩ := HS11.out.rules 1 rfl))
          refine (rIn_c r A n c p y f a.lo a.hi bs _ (HS11.out.rdIn 0 rfl HR.out hp HN.out.1 HN.out.2) 0 p y f (in_no hw)).mono ?_
          rintro e W12 ⟨rfl, hM⟩
          have HS12 := Lib.hid (HS11.out.call 0 rfl hM)
          clear hM HS11 r1 r2 r3
          go_wp2_with fail
          refine region_b (Ms w noB _) (by kernel_rfl) (by kernel_rfl) HS12.out ?_
          clear HS12
          intro W14 hS
          have HS14 := Lib.hid hS
          clear hS
          repeat (first | go_big_quiet_skip | (refine wpQuiet_load_b (by kernel_rfl) 30 _ rfl (HS14.out.at_ 2 rfl) 2 (fltV y f) rfl _ Try.underlying30 rfl (by kernel_rfl) (Nat.le_of_ble_eq_true rfl) rfl ?_) | (refine wpQuiet_load_b (by kernel_rfl) 41 _ rfl (HS14.out.at_ 3 rfl) 4 (.agg z4) rfl _ Try.underlying41 rfl (by kernel_rfl) (Nat.le_of_ble_eq_true rfl) rfl ?_) | (refine wpQuiet_neq (by kernel_rfl) 30 _ _ _ rfl rfl rfl (by kernel_rfl) false HI0.out ?_; go_simp) | (refine wpQuiet_neq (by kernel_rfl) 41 _ _ _ rfl rfl rfl (by kernel_rfl) true HI1.out ?_) | (refine wpQuiet_neq (by kernel_rfl) 30 _ _ _ rfl rfl rfl (by kernel_rfl) true HI2.out ?_) | go_big_quiet_step (first | with_reducible exact Calls.regrown_of (left_c r A n c p y f _ ((HS14.out.at_ 0 rfl).after (below_regrown _ _ _)) hp (by have := HN.out; omega)) | with_reducible exact Calls.regrown_of (fault_c r A n c p y f _ ((HS14.out.at_ 0 rfl).after (below_regrown _ _ _)))) | quiet_step (first | with_reducible exact Calls.regrown_of (left_c r A n c p y f _ ((HS14.out.at_ 0 rfl).after (below_regrown _ _ _)) hp (by have := HN.out; omega)) | with_reducible exact Calls.regrown_of (fault_c r A n c p y f _ ((HS14.out.at_ 0 rfl).after (below_regrown _ _ _)))))
          refine wpQuiet_nil ?_
          intro W15 hb
          have HS15 := Lib.hid (HS14.out.after hb)
          clear hb HS14
          go_wp2_with fail
          exact ⟨⟨k + 1, p, y, f, by omega, hp, by go_num, Ms.cut (l := [blkR r A n c p y f]) (k := [.blk g4 _ _, .blk g8 _ _, .blk g10 _ _]) HS15.out⟩, by simp [intOf]; omega⟩
        cases k2 : (a.kind % 5 == 2)
        rotate_left
        · skip
          go_wp2_with (first
            | (refine wpList_load_ad (by kernel_rfl) 50 _ rfl (ad.add (k * 3)) (acL a) HC.out rfl _ (acV a) rfl Try.underlying50 rfl (by kernel_rfl) ?_)
            | (refine wpList_alloc_b rfl (some 7) rfl 50 #[.int .u8 0, .int .i64 0, .int .i64 0] (by kernel_rfl) ?_; intro g4 W4 hb hB hg; have HS4 := Lib.hid (HS3.out.new hb hB hg); clear hb hB hg HS3)
            | (refine wpList_store_at rfl 50 _ _ rfl (HS4.out.at_ 1 rfl) (acV a) rfl rfl (by kernel_rfl) (Nat.le_of_ble_eq_true rfl) (by kernel_rfl) ?_; intro W5 hB hP; have HS5 := Lib.hid (HS4.out.put 1 rfl (new := acA a) hB hP); clear hB hP HS4))
          refine (fault_c r A n c p y f _ (HS5.out.at_ 0 rfl)).mono ?_
          rintro e W6 ⟨rfl, hb⟩
          have HS6 := Lib.hid (HS5.out.after hb)
          clear hb HS5
          go_wp2_with fail
          refine (left_c r A n c p y f _ (HS6.out.at_ 0 rfl) hp (by have := HN.out; omega)).mono ?_
          rintro e W7 ⟨rfl, hb⟩
          have HS7 := Lib.hid (HS6.out.after hb)
          clear hb HS6
          go_wp2_with (first
            | (refine wpList_alloc_b rfl (some 8) rfl 30 (fltA 0 0) (by kernel_rfl) ?_; intro g8 W8 hb hB hg; have HS8 := Lib.hid (HS7.out.new hb hB hg); clear hb hB hg HS7)
            | (refine wpList_store_at rfl 30 _ _ rfl (HS8.out.at_ 2 rfl) (fltV y f) rfl rfl (by kernel_rfl) (Nat.le_of_ble_eq_true rfl) (by kernel_rfl) ?_; intro W9 hB hP; have HS9 := Lib.hid (HS8.out.put 2 rfl (new := fltA y f) hB hP); clear hB hP HS8)
            | (refine wpList_alloc_b rfl (some 12) rfl 41 z4 (by kernel_rfl) ?_; intro g10 W10 hb hB hg; have HS10 := Lib.hid (HS9.out.new hb hB hg); clear hb hB hg HS9)
            | (refine wpList_store_at rfl 41 _ _ rfl (HS10.out.at_ 3 rfl) (.agg z4) rfl rfl (by kernel_rfl) (Nat.le_of_ble_eq_true rfl) (by kernel_rfl) ?_; intro W11 hB hP; have HS11 := Lib.hid (HS10.out.put 3 rfl (new := z4) hB hP); clear hB hP HS10; obtain ⟨r1, r2, r3⟩ := HS11.out.rules 1 rfl))
          refine (rText_c r A n c p y f a.hi bs _ (HS11.out.rdIn 0 rfl HR.out hp HN.out.1 HN.out.2) [] p y f (text_no hw)).mono ?_
          rintro e W12 ⟨rfl, hM⟩
          have HS12 := Lib.hid (HS11.out.call 0 rfl hM)
          clear hM HS11 r1 r2 r3
          rw [str_nil]
          go_wp2_with fail
          refine region_b (Ms w noB _) (by kernel_rfl) (by kernel_rfl) HS12.out ?_
          clear HS12
          intro W14 hS
          have HS14 := Lib.hid hS
          clear hS
          repeat (first | go_big_quiet_skip | (refine wpQuiet_load_b (by kernel_rfl) 30 _ rfl (HS14.out.at_ 2 rfl) 2 (fltV y f) rfl _ Try.underlying30 rfl (by kernel_rfl) (Nat.le_of_ble_eq_true rfl) rfl ?_) | (refine wpQuiet_load_b (by kernel_rfl) 41 _ rfl (HS14.out.at_ 3 rfl) 4 (.agg z4) rfl _ Try.underlying41 rfl (by kernel_rfl) (Nat.le_of_ble_eq_true rfl) rfl ?_) | (refine wpQuiet_neq (by kernel_rfl) 30 _ _ _ rfl rfl rfl (by kernel_rfl) false HI0.out ?_; go_simp) | (refine wpQuiet_neq (by kernel_rfl) 41 _ _ _ rfl rfl rfl (by kernel_rfl) true HI1.out ?_) | (refine wpQuiet_neq (by kernel_rfl) 30 _ _ _ rfl rfl rfl (by kernel_rfl) true HI2.out ?_) | go_big_quiet_step (first | with_reducible exact Calls.regrown_of (left_c r A n c p y f _ ((HS14.out.at_ 0 rfl).after (below_regrown _ _ _)) hp (by have := HN.out; omega)) | with_reducible exact Calls.regrown_of (fault_c r A n c p y f _ ((HS14.out.at_ 0 rfl).after (below_regrown _ _ _)))) | quiet_step (first | with_reducible exact Calls.regrown_of (left_c r A n c p y f _ ((HS14.out.at_ 0 rfl).after (below_regrown _ _ _)) hp (by have := HN.out; omega)) | with_reducible exact Calls.regrown_of (fault_c r A n c p y f _ ((HS14.out.at_ 0 rfl).after (below_regrown _ _ _)))))
          refine wpQuiet_nil ?_
          intro W15 hb
          have HS15 := Lib.hid (HS14.out.after hb)
          clear hb HS14
          go_wp2_with fail
          exact ⟨⟨k + 1, p, y, f, by omega, hp, by go_num, Ms.cut (l := [blkR r A n c p y f]) (k := [.blk g4 _ _, .blk g8 _ _, .blk g10 _ _]) HS15.out⟩, by simp [intOf]; omega⟩
        cases k3 : (a.kind % 5 == 3)
        rotate_left
        · skip
          go_wp2_with (first
            | (refine wpList_load_ad (by kernel_rfl) 50 _ rfl (ad.add (k * 3)) (acL a) HC.out rfl _ (acV a) rfl Try.underlying50 rfl (by kernel_rfl) ?_)
            | (refine wpList_alloc_b rfl (some 7) rfl 50 #[.int .u8 0, .int .i64 0, .int .i64 0] (by kernel_rfl) ?_; intro g4 W4 hb hB hg; have HS4 := Lib.hid (HS3.out.new hb hB hg); clear hb hB hg HS3)
            | (refine wpList_store_at rfl 50 _ _ rfl (HS4.out.at_ 1 rfl) (acV a) rfl rfl (by kernel_rfl) (Nat.le_of_ble_eq_true rfl) (by kernel_rfl) ?_; intro W5 hB hP; have HS5 := Lib.hid (HS4.out.put 1 rfl (new := acA a) hB hP); clear hB hP HS4))
          refine (fault_c r A n c p y f _ (HS5.out.at_ 0 rfl)).mono ?_
          rintro e W6 ⟨rfl, hb⟩
          have HS6 := Lib.hid (HS5.out.after hb)
          clear hb HS5
          go_wp2_with fail
          refine (left_c r A n c p y f _ (HS6.out.at_ 0 rfl) hp (by have := HN.out; omega)).mono ?_
          rintro e W7 ⟨rfl, hb⟩
          have HS7 := Lib.hid (HS6.out.after hb)
          clear hb HS6
          go_wp2_with (first
            | (refine wpList_alloc_b rfl (some 8) rfl 30 (fltA 0 0) (by kernel_rfl) ?_; intro g8 W8 hb hB hg; have HS8 := Lib.hid (HS7.out.new hb hB hg); clear hb hB hg HS7)
            | (refine wpList_store_at rfl 30 _ _ rfl (HS8.out.at_ 2 rfl) (fltV y f) rfl rfl (by kernel_rfl) (Nat.le_of_ble_eq_true rfl) (by kernel_rfl) ?_; intro W9 hB hP; have HS9 := Lib.hid (HS8.out.put 2 rfl (new := fltA y f) hB hP); clear hB hP HS8)
            | (refine wpList_alloc_b rfl (some 12) rfl 41 z4 (by kernel_rfl) ?_; intro g10 W10 hb hB hg; have HS10 := Lib.hid (HS9.out.new hb hB hg); clear hb hB hg HS9)
            | (refine wpList_store_at rfl 41 _ _ rfl (HS10.out.at_ 3 rfl) (.agg z4) rfl rfl (by kernel_rfl) (Nat.le_of_ble_eq_true rfl) (by kernel_rfl) ?_; intro W11 hB hP; have HS11 := Lib.hid (HS10.out.put 3 rfl (new := z4) hB hP); clear hB hP HS10; obtain ⟨r1, r2, r3⟩ := HS11.out.rules 1 rfl))
          refine (rNodes_c r A n c p y f bs _ (HS11.out.rdIn 0 rfl HR.out hp HN.out.1 HN.out.2) (fun _ => 0) p y f (nodes_no hw)).mono ?_
          rintro e W12 ⟨rfl, hM⟩
          have HS12 := Lib.hid (HS11.out.call 0 rfl hM)
          clear hM HS11 r1 r2 r3
          go_wp2_with (refine wpList_store_at rfl 41 _ _ rfl (HS12.out.at_ 3 rfl) (ndV 0 0 0 0) rfl rfl (by kernel_rfl) (Nat.le_of_ble_eq_true rfl) (by kernel_rfl) ?_; intro W13 hB hP; have HS13 := Lib.hid (HS12.out.put 3 rfl (new := z4) hB hP); clear hB hP HS12)
          refine region_b (Ms w noB _) (by kernel_rfl) (by kernel_rfl) HS13.out ?_
          clear HS13
          intro W14 hS
          have HS14 := Lib.hid hS
          clear hS
          repeat (first | go_big_quiet_skip | (refine wpQuiet_load_b (by kernel_rfl) 30 _ rfl (HS14.out.at_ 2 rfl) 2 (fltV y f) rfl _ Try.underlying30 rfl (by kernel_rfl) (Nat.le_of_ble_eq_true rfl) rfl ?_) | (refine wpQuiet_load_b (by kernel_rfl) 41 _ rfl (HS14.out.at_ 3 rfl) 4 (.agg z4) rfl _ Try.underlying41 rfl (by kernel_rfl) (Nat.le_of_ble_eq_true rfl) rfl ?_) | (refine wpQuiet_neq (by kernel_rfl) 30 _ _ _ rfl rfl rfl (by kernel_rfl) false HI0.out ?_; go_simp) | (refine wpQuiet_neq (by kernel_rfl) 41 _ _ _ rfl rfl rfl (by kernel_rfl) true HI1.out ?_) | (refine wpQuiet_neq (by kernel_rfl) 30 _ _ _ rfl rfl rfl (by kernel_rfl) true HI2.out ?_) | go_big_quiet_step (first | with_reducible exact Calls.regrown_of (left_c r A n c p y f _ ((HS14.out.at_ 0 rfl).after (below_regrown _ _ _)) hp (by have := HN.out; omega)) | with_reducible exact Calls.regrown_of (fault_c r A n c p y f _ ((HS14.out.at_ 0 rfl).after (below_regrown _ _ _)))) | quiet_step (first | with_reducible exact Calls.regrown_of (left_c r A n c p y f _ ((HS14.out.at_ 0 rfl).after (below_regrown _ _ _)) hp (by have := HN.out; omega)) | with_reducible exact Calls.regrown_of (fault_c r A n c p y f _ ((HS14.out.at_ 0 rfl).after (below_regrown _ _ _)))))
          refine wpQuiet_nil ?_
          intro W15 hb
          have HS15 := Lib.hid (HS14.out.after hb)
          clear hb HS14
          go_wp2_with fail
          exact ⟨⟨k + 1, p, y, f, by omega, hp, by go_num, Ms.cut (l := [blkR r A n c p y f]) (k := [.blk g4 _ _, .blk g8 _ _, .blk g10 _ _]) HS15.out⟩, by simp [intOf]; omega⟩
        go_wp2_with (first
          | (refine wpList_load_ad (by kernel_rfl) 50 _ rfl (ad.add (k * 3)) (acL a) HC.out rfl _ (acV a) rfl Try.underlying50 rfl (by kernel_rfl) ?_)
          | (refine wpList_alloc_b rfl (some 7) rfl 50 #[.int .u8 0, .int .i64 0, .int .i64 0] (by kernel_rfl) ?_; intro g4 W4 hb hB hg; have HS4 := Lib.hid (HS3.out.new hb hB hg); clear hb hB hg HS3)
          | (refine wpList_store_at rfl 50 _ _ rfl (HS4.out.at_ 1 rfl) (acV a) rfl rfl (by kernel_rfl) (Nat.le_of_ble_eq_true rfl) (by kernel_rfl) ?_; intro W5 hB hP; have HS5 := Lib.hid (HS4.out.put 1 rfl (new := acA a) hB hP); clear hB hP HS4))
        refine (fault_c r A n c p y f _ (HS5.out.at_ 0 rfl)).mono ?_
        rintro e W6 ⟨rfl, hb⟩
        have HS6 := Lib.hid (HS5.out.after hb)
        clear hb HS5
        go_wp2_with fail
        refine (left_c r A n c p y f _ (HS6.out.at_ 0 rfl) hp (by have := HN.out; omega)).mono ?_
        rintro e W7 ⟨rfl, hb⟩
        have HS7 := Lib.hid (HS6.out.after hb)
        clear hb HS6
        go_wp2_with (first
          | (refine wpList_alloc_b rfl (some 8) rfl 30 (fltA 0 0) (by kernel_rfl) ?_; intro g8 W8 hb hB hg; have HS8 := Lib.hid (HS7.out.new hb hB hg); clear hb hB hg HS7)
          | (refine wpList_store_at rfl 30 _ _ rfl (HS8.out.at_ 2 rfl) (fltV y f) rfl rfl (by kernel_rfl) (Nat.le_of_ble_eq_true rfl) (by kernel_rfl) ?_; intro W9 hB hP; have HS9 := Lib.hid (HS8.out.put 2 rfl (new := fltA y f) hB hP); clear hB hP HS8)
          | (refine wpList_alloc_b rfl (some 12) rfl 41 z4 (by kernel_rfl) ?_; intro g10 W10 hb hB hg; have HS10 := Lib.hid (HS9.out.new hb hB hg); clear hb hB hg HS9)
          | (refine wpList_store_at rfl 41 _ _ rfl (HS10.out.at_ 3 rfl) (.agg z4) rfl rfl (by kernel_rfl) (Nat.le_of_ble_eq_true rfl) (by kernel_rfl) ?_; intro W11 hB hP; have HS11 := Lib.hid (HS10.out.put 3 rfl (new := z4) hB hP); clear hB hP HS10; obtain ⟨r1, r2, r3⟩ := HS11.out.rules 1 rfl))
        refine (rEnd_c r A n c p y f bs _ (HS11.out.rdIn 0 rfl HR.out hp HN.out.1 HN.out.2)).mono ?_
        rw [end_no hw]
        rintro e W12 ⟨rfl, hM⟩
        have HS12 := Lib.hid (HS11.out.call 0 rfl hM)
        clear hM HS11 r1 r2 r3
        go_wp2_with fail
        refine region_b (Ms w noB _) (by kernel_rfl) (by kernel_rfl) HS12.out ?_
        clear HS12
        intro W14 hS
        have HS14 := Lib.hid hS
        clear hS
        repeat (first | go_big_quiet_skip | (refine wpQuiet_load_b (by kernel_rfl) 30 _ rfl (HS14.out.at_ 2 rfl) 2 (fltV y f) rfl _ Try.underlying30 rfl (by kernel_rfl) (Nat.le_of_ble_eq_true rfl) rfl ?_) | (refine wpQuiet_load_b (by kernel_rfl) 41 _ rfl (HS14.out.at_ 3 rfl) 4 (.agg z4) rfl _ Try.underlying41 rfl (by kernel_rfl) (Nat.le_of_ble_eq_true rfl) rfl ?_) | (refine wpQuiet_neq (by kernel_rfl) 30 _ _ _ rfl rfl rfl (by kernel_rfl) false HI0.out ?_; go_simp) | (refine wpQuiet_neq (by kernel_rfl) 41 _ _ _ rfl rfl rfl (by kernel_rfl) true HI1.out ?_) | (refine wpQuiet_neq (by kernel_rfl) 30 _ _ _ rfl rfl rfl (by kernel_rfl) true HI2.out ?_) | go_big_quiet_step (first | with_reducible exact Calls.regrown_of (left_c r A n c p y f _ ((HS14.out.at_ 0 rfl).after (below_regrown _ _ _)) hp (by have := HN.out; omega)) | with_reducible exact Calls.regrown_of (fault_c r A n c p y f _ ((HS14.out.at_ 0 rfl).after (below_regrown _ _ _)))) | quiet_step (first | with_reducible exact Calls.regrown_of (left_c r A n c p y f _ ((HS14.out.at_ 0 rfl).after (below_regrown _ _ _)) hp (by have := HN.out; omega)) | with_reducible exact Calls.regrown_of (fault_c r A n c p y f _ ((HS14.out.at_ 0 rfl).after (below_regrown _ _ _)))))
        refine wpQuiet_nil ?_
        intro W15 hb
        have HS15 := Lib.hid (HS14.out.after hb)
        clear hb HS14
        go_wp2_with fail
        exact ⟨⟨k + 1, p, y, f, by omega, hp, by go_num, Ms.cut (l := [blkR r A n c p y f]) (k := [.blk g4 _ _, .blk g8 _ _, .blk g10 _ _]) HS15.out⟩, by simp [intOf]; omega⟩
      · have HI0 := Lib.hid (fun w' => show (Op.equalIn 10000 30 (.agg (fltA y f)) (.agg (fltA 0 0))).run Try.prog w' = .ok true w' by rw [eqFlt_run]; rw [show (y == 0 && f == 0) = true from hw])
        cases k0 : (a.kind % 5 == 0)
        rotate_left
        · skip
          obtain ⟨v, q, y', f', he⟩ : ∃ v q y' f', intR bs p y f = (v, q, y', f') := ⟨_, _, _, _, rfl⟩
          have hle := int_le (by rw [HL.out]; exact hp) he
          rw [HL.out] at hle
          have HE := Lib.hid he
          have HQ := Lib.hid hle.2
          have hqg : ¬ ((n - p : Nat) : Int) < ((n - q : Nat) : Int) := by omega
          have hqz : ¬ ((n - q : Nat) : Int) < 0 := by omega
          have hqn : ¬ (n - p < n - q) := by omega
          have hqn2 : decide (n - p < n - q) = false := decide_eq_false hqn
          have hqd : decide (((n - p : Nat) : Int) < ((n - q : Nat) : Int)) = false := decide_eq_false hqg
          have hqe : decide (((n - q : Nat) : Int) < 0) = false := decide_eq_false hqz
          clear he hle
          go_wp2_with (first
            | (refine wpList_load_ad (by kernel_rfl) 50 _ rfl (ad.add (k * 3)) (acL a) HC.out rfl _ (acV a) rfl Try.underlying50 rfl (by kernel_rfl) ?_)
            | (refine wpList_alloc_b rfl (some 7) rfl 50 #[.int .u8 0, .int .i64 0, .int .i64 0] (by kernel_rfl) ?_; intro g4 W4 hb hB hg; have HS4 := Lib.hid (HS3.out.new hb hB hg); clear hb hB hg HS3)
            | (refine wpList_store_at rfl 50 _ _ rfl (HS4.out.at_ 1 rfl) (acV a) rfl rfl (by kernel_rfl) (Nat.le_of_ble_eq_true rfl) (by kernel_rfl) ?_; intro W5 hB hP; have HS5 := Lib.hid (HS4.out.put 1 rfl (new := acA a) hB hP); clear hB hP HS4))
          refine (fault_c r A n c p y f _ (HS5.out.at_ 0 rfl)).mono ?_
          rintro e W6 ⟨rfl, hb⟩
          have HS6 := Lib.hid (HS5.out.after hb)
          clear hb HS5
          go_wp2_with fail
          refine (left_c r A n c p y f _ (HS6.out.at_ 0 rfl) hp (by have := HN.out; omega)).mono ?_
          rintro e W7 ⟨rfl, hb⟩
          have HS7 := Lib.hid (HS6.out.after hb)
          clear hb HS6
          go_wp2_with (first
            | (refine wpList_alloc_b rfl (some 8) rfl 30 (fltA 0 0) (by kernel_rfl) ?_; intro g8 W8 hb hB hg; have HS8 := Lib.hid (HS7.out.new hb hB hg); clear hb hB hg HS7)
            | (refine wpList_store_at rfl 30 _ _ rfl (HS8.out.at_ 2 rfl) (fltV y f) rfl rfl (by kernel_rfl) (Nat.le_of_ble_eq_true rfl) (by kernel_rfl) ?_; intro W9 hB hP; have HS9 := Lib.hid (HS8.out.put 2 rfl (new := fltA y f) hB hP); clear hB hP HS8)
            | (refine wpList_alloc_b rfl (some 12) rfl 41 z4 (by kernel_rfl) ?_; intro g10 W10 hb hB hg; have HS10 := Lib.hid (HS9.out.new hb hB hg); clear hb hB hg HS9)
            | (refine wpList_store_at rfl 41 _ _ rfl (HS10.out.at_ 3 rfl) (.agg z4) rfl rfl (by kernel_rfl) (Nat.le_of_ble_eq_true rfl) (by kernel_rfl) ?_; intro W11 hB hP; have HS11 := Lib.hid (HS10.out.put 3 rfl (new := z4) hB hP); clear hB hP HS10; obtain ⟨r1, r2, r3⟩ := HS11.out.rules 1 rfl))
          refine (rInt_c r A n c p y f bs _ (HS11.out.rdIn 0 rfl HR.out hp HN.out.1 HN.out.2) v q y' f' HE.out).mono ?_
          rintro e W12 ⟨rfl, hM⟩
          have HS12 := Lib.hid (HS11.out.call 0 rfl hM)
          clear hM HS11 r1 r2 r3
          go_wp2_with fail
          refine region_b (Ms w noB _) (by kernel_rfl) (by kernel_rfl) HS12.out ?_
          clear HS12
          intro W14 hS
          have HS14 := Lib.hid hS
          clear hS
          repeat (first | go_big_quiet_skip | (refine wpQuiet_load_b (by kernel_rfl) 30 _ rfl (HS14.out.at_ 2 rfl) 2 (fltV y f) rfl _ Try.underlying30 rfl (by kernel_rfl) (Nat.le_of_ble_eq_true rfl) rfl ?_) | (refine wpQuiet_neq (by kernel_rfl) 30 _ _ _ rfl rfl rfl (by kernel_rfl) true HI0.out ?_; go_simp) | go_big_quiet_step (first | with_reducible exact Calls.regrown_of (left_c r A n c q y' f' _ ((HS14.out.at_ 0 rfl).after (below_regrown _ _ _)) HQ.out (by have := HN.out; omega))) | quiet_step (first | with_reducible exact Calls.regrown_of (left_c r A n c q y' f' _ ((HS14.out.at_ 0 rfl).after (below_regrown _ _ _)) HQ.out (by have := HN.out; omega))))
          refine wpQuiet_nil ?_
          intro W15 hb
          have HS15 := Lib.hid (HS14.out.after hb)
          clear hb HS14
          go_wp2_with fail
          exact ⟨⟨k + 1, q, y', f', by omega, HQ.out, by go_num, Ms.cut (l := [blkR r A n c q y' f']) (k := [.blk g4 _ _, .blk g8 _ _, .blk g10 _ _]) HS15.out⟩, by simp [intOf]; omega⟩
        cases k1 : (a.kind % 5 == 1)
        rotate_left
        · skip
          obtain ⟨v, q, y', f', he⟩ : ∃ v q y' f', inR bs p y f a.lo a.hi = (v, q, y', f') := ⟨_, _, _, _, rfl⟩
          have hle := in_le (by rw [HL.out]; exact hp) he
          rw [HL.out] at hle
          have HE := Lib.hid he
          have HQ := Lib.hid hle.2
          have hqg : ¬ ((n - p : Nat) : Int) < ((n - q : Nat) : Int) := by omega
          have hqz : ¬ ((n - q : Nat) : Int) < 0 := by omega
          have hqn : ¬ (n - p < n - q) := by omega
          have hqn2 : decide (n - p < n - q) = false := decide_eq_false hqn
          have hqd : decide (((n - p : Nat) : Int) < ((n - q : Nat) : Int)) = false := decide_eq_false hqg
          have hqe : decide (((n - q : Nat) : Int) < 0) = false := decide_eq_false hqz
          clear he hle
          go_wp2_with (first
            | (refine wpList_load_ad (by kernel_rfl) 50 _ rfl (ad.add (k * 3)) (acL a) HC.out rfl _ (acV a) rfl Try.underlying50 rfl (by kernel_rfl) ?_)
            | (refine wpList_alloc_b rfl (some 7) rfl 50 #[.int .u8 0, .int .i64 0, .int .i64 0] (by kernel_rfl) ?_; intro g4 W4 hb hB hg; have HS4 := Lib.hid (HS3.out.new hb hB hg); clear hb hB hg HS3)
            | (refine wpList_store_at rfl 50 _ _ rfl (HS4.out.at_ 1 rfl) (acV a) rfl rfl (by kernel_rfl) (Nat.le_of_ble_eq_true rfl) (by kernel_rfl) ?_; intro W5 hB hP; have HS5 := Lib.hid (HS4.out.put 1 rfl (new := acA a) hB hP); clear hB hP HS4))
          refine (fault_c r A n c p y f _ (HS5.out.at_ 0 rfl)).mono ?_
          rintro e W6 ⟨rfl, hb⟩
          have HS6 := Lib.hid (HS5.out.after hb)
          clear hb HS5
          go_wp2_with fail
          refine (left_c r A n c p y f _ (HS6.out.at_ 0 rfl) hp (by have := HN.out; omega)).mono ?_
          rintro e W7 ⟨rfl, hb⟩
          have HS7 := Lib.hid (HS6.out.after hb)
          clear hb HS6
          go_wp2_with (first
            | (refine wpList_alloc_b rfl (some 8) rfl 30 (fltA 0 0) (by kernel_rfl) ?_; intro g8 W8 hb hB hg; have HS8 := Lib.hid (HS7.out.new hb hB hg); clear hb hB hg HS7)
            | (refine wpList_store_at rfl 30 _ _ rfl (HS8.out.at_ 2 rfl) (fltV y f) rfl rfl (by kernel_rfl) (Nat.le_of_ble_eq_true rfl) (by kernel_rfl) ?_; intro W9 hB hP; have HS9 := Lib.hid (HS8.out.put 2 rfl (new := fltA y f) hB hP); clear hB hP HS8)
            | (refine wpList_alloc_b rfl (some 12) rfl 41 z4 (by kernel_rfl) ?_; intro g10 W10 hb hB hg; have HS10 := Lib.hid (HS9.out.new hb hB hg); clear hb hB hg HS9)
            | (refine wpList_store_at rfl 41 _ _ rfl (HS10.out.at_ 3 rfl) (.agg z4) rfl rfl (by kernel_rfl) (Nat.le_of_ble_eq_true rfl) (by kernel_rfl) ?_; intro W11 hB hP; have HS11 := Lib.hid (HS10.out.put 3 rfl (new := z4) hB hP); clear hB hP HS10; obtain ⟨r1, r2, r3⟩ := HS11.out.rules 1 rfl))
          refine (rIn_c r A n c p y f a.lo a.hi bs _ (HS11.out.rdIn 0 rfl HR.out hp HN.out.1 HN.out.2) v q y' f' HE.out).mono ?_
          rintro e W12 ⟨rfl, hM⟩
          have HS12 := Lib.hid (HS11.out.call 0 rfl hM)
          clear hM HS11 r1 r2 r3
          go_wp2_with fail
          refine region_b (Ms w noB _) (by kernel_rfl) (by kernel_rfl) HS12.out ?_
          clear HS12
          intro W14 hS
          have HS14 := Lib.hid hS
          clear hS
          repeat (first | go_big_quiet_skip | (refine wpQuiet_load_b (by kernel_rfl) 30 _ rfl (HS14.out.at_ 2 rfl) 2 (fltV y f) rfl _ Try.underlying30 rfl (by kernel_rfl) (Nat.le_of_ble_eq_true rfl) rfl ?_) | (refine wpQuiet_neq (by kernel_rfl) 30 _ _ _ rfl rfl rfl (by kernel_rfl) true HI0.out ?_; go_simp) | go_big_quiet_step (first | with_reducible exact Calls.regrown_of (left_c r A n c q y' f' _ ((HS14.out.at_ 0 rfl).after (below_regrown _ _ _)) HQ.out (by have := HN.out; omega))) | quiet_step (first | with_reducible exact Calls.regrown_of (left_c r A n c q y' f' _ ((HS14.out.at_ 0 rfl).after (below_regrown _ _ _)) HQ.out (by have := HN.out; omega))))
          refine wpQuiet_nil ?_
          intro W15 hb
          have HS15 := Lib.hid (HS14.out.after hb)
          clear hb HS14
          go_wp2_with fail
          exact ⟨⟨k + 1, q, y', f', by omega, HQ.out, by go_num, Ms.cut (l := [blkR r A n c q y' f']) (k := [.blk g4 _ _, .blk g8 _ _, .blk g10 _ _]) HS15.out⟩, by simp [intOf]; omega⟩
        cases k2 : (a.kind % 5 == 2)
        rotate_left
        · skip
          obtain ⟨v, q, y', f', he⟩ : ∃ v q y' f', textR bs p y f a.hi = (v, q, y', f') := ⟨_, _, _, _, rfl⟩
          have hle := text_le (by rw [HL.out]; exact hp) he
          rw [HL.out] at hle
          have HE := Lib.hid he
          have HQ := Lib.hid hle.2
          have hqg : ¬ ((n - p : Nat) : Int) < ((n - q : Nat) : Int) := by omega
          have hqz : ¬ ((n - q : Nat) : Int) < 0 := by omega
          have hqn : ¬ (n - p < n - q) := by omega
          have hqn2 : decide (n - p < n - q) = false := decide_eq_false hqn
          have hqd : decide (((n - p : Nat) : Int) < ((n - q : Nat) : Int)) = false := decide_eq_false hqg
          have hqe : decide (((n - q : Nat) : Int) < 0) = false := decide_eq_false hqz
          clear he hle
          go_wp2_with (first
            | (refine wpList_load_ad (by kernel_rfl) 50 _ rfl (ad.add (k * 3)) (acL a) HC.out rfl _ (acV a) rfl Try.underlying50 rfl (by kernel_rfl) ?_)
            | (refine wpList_alloc_b rfl (some 7) rfl 50 #[.int .u8 0, .int .i64 0, .int .i64 0] (by kernel_rfl) ?_; intro g4 W4 hb hB hg; have HS4 := Lib.hid (HS3.out.new hb hB hg); clear hb hB hg HS3)
            | (refine wpList_store_at rfl 50 _ _ rfl (HS4.out.at_ 1 rfl) (acV a) rfl rfl (by kernel_rfl) (Nat.le_of_ble_eq_true rfl) (by kernel_rfl) ?_; intro W5 hB hP; have HS5 := Lib.hid (HS4.out.put 1 rfl (new := acA a) hB hP); clear hB hP HS4))
          refine (fault_c r A n c p y f _ (HS5.out.at_ 0 rfl)).mono ?_
          rintro e W6 ⟨rfl, hb⟩
          have HS6 := Lib.hid (HS5.out.after hb)
          clear hb HS5
          go_wp2_with fail
          refine (left_c r A n c p y f _ (HS6.out.at_ 0 rfl) hp (by have := HN.out; omega)).mono ?_
          rintro e W7 ⟨rfl, hb⟩
          have HS7 := Lib.hid (HS6.out.after hb)
          clear hb HS6
          go_wp2_with (first
            | (refine wpList_alloc_b rfl (some 8) rfl 30 (fltA 0 0) (by kernel_rfl) ?_; intro g8 W8 hb hB hg; have HS8 := Lib.hid (HS7.out.new hb hB hg); clear hb hB hg HS7)
            | (refine wpList_store_at rfl 30 _ _ rfl (HS8.out.at_ 2 rfl) (fltV y f) rfl rfl (by kernel_rfl) (Nat.le_of_ble_eq_true rfl) (by kernel_rfl) ?_; intro W9 hB hP; have HS9 := Lib.hid (HS8.out.put 2 rfl (new := fltA y f) hB hP); clear hB hP HS8)
            | (refine wpList_alloc_b rfl (some 12) rfl 41 z4 (by kernel_rfl) ?_; intro g10 W10 hb hB hg; have HS10 := Lib.hid (HS9.out.new hb hB hg); clear hb hB hg HS9)
            | (refine wpList_store_at rfl 41 _ _ rfl (HS10.out.at_ 3 rfl) (.agg z4) rfl rfl (by kernel_rfl) (Nat.le_of_ble_eq_true rfl) (by kernel_rfl) ?_; intro W11 hB hP; have HS11 := Lib.hid (HS10.out.put 3 rfl (new := z4) hB hP); clear hB hP HS10; obtain ⟨r1, r2, r3⟩ := HS11.out.rules 1 rfl))
          refine (rText_c r A n c p y f a.hi bs _ (HS11.out.rdIn 0 rfl HR.out hp HN.out.1 HN.out.2) v q y' f' HE.out).mono ?_
          rintro e W12 ⟨rfl, hM⟩
          have HS12 := Lib.hid (HS11.out.call 0 rfl hM)
          clear hM HS11 r1 r2 r3
          go_wp2_with fail
          refine region_b (Ms w noB _) (by kernel_rfl) (by kernel_rfl) HS12.out ?_
          clear HS12
          intro W14 hS
          have HS14 := Lib.hid hS
          clear hS
          repeat (first | go_big_quiet_skip | (refine wpQuiet_load_b (by kernel_rfl) 30 _ rfl (HS14.out.at_ 2 rfl) 2 (fltV y f) rfl _ Try.underlying30 rfl (by kernel_rfl) (Nat.le_of_ble_eq_true rfl) rfl ?_) | (refine wpQuiet_neq (by kernel_rfl) 30 _ _ _ rfl rfl rfl (by kernel_rfl) true HI0.out ?_; go_simp) | go_big_quiet_step (first | with_reducible exact Calls.regrown_of (left_c r A n c q y' f' _ ((HS14.out.at_ 0 rfl).after (below_regrown _ _ _)) HQ.out (by have := HN.out; omega))) | quiet_step (first | with_reducible exact Calls.regrown_of (left_c r A n c q y' f' _ ((HS14.out.at_ 0 rfl).after (below_regrown _ _ _)) HQ.out (by have := HN.out; omega))))
          refine wpQuiet_nil ?_
          intro W15 hb
          have HS15 := Lib.hid (HS14.out.after hb)
          clear hb HS14
          go_wp2_with fail
          exact ⟨⟨k + 1, q, y', f', by omega, HQ.out, by go_num, Ms.cut (l := [blkR r A n c q y' f']) (k := [.blk g4 _ _, .blk g8 _ _, .blk g10 _ _]) HS15.out⟩, by simp [intOf]; omega⟩
        cases k3 : (a.kind % 5 == 3)
        rotate_left
        · skip
          obtain ⟨v, q, y', f', he⟩ : ∃ v q y' f', nodesR bs p y f = (v, q, y', f') := ⟨_, _, _, _, rfl⟩
          have hle := nodes_le (by rw [HL.out]; exact hp) he
          rw [HL.out] at hle
          have HE := Lib.hid he
          have HQ := Lib.hid hle.2
          have hqg : ¬ ((n - p : Nat) : Int) < ((n - q : Nat) : Int) := by omega
          have hqz : ¬ ((n - q : Nat) : Int) < 0 := by omega
          have hqn : ¬ (n - p < n - q) := by omega
          have hqn2 : decide (n - p < n - q) = false := decide_eq_false hqn
          have hqd : decide (((n - p : Nat) : Int) < ((n - q : Nat) : Int)) = false := decide_eq_false hqg
          have hqe : decide (((n - q : Nat) : Int) < 0) = false := decide_eq_false hqz
          clear he hle
          go_wp2_with (first
            | (refine wpList_load_ad (by kernel_rfl) 50 _ rfl (ad.add (k * 3)) (acL a) HC.out rfl _ (acV a) rfl Try.underlying50 rfl (by kernel_rfl) ?_)
            | (refine wpList_alloc_b rfl (some 7) rfl 50 #[.int .u8 0, .int .i64 0, .int .i64 0] (by kernel_rfl) ?_; intro g4 W4 hb hB hg; have HS4 := Lib.hid (HS3.out.new hb hB hg); clear hb hB hg HS3)
            | (refine wpList_store_at rfl 50 _ _ rfl (HS4.out.at_ 1 rfl) (acV a) rfl rfl (by kernel_rfl) (Nat.le_of_ble_eq_true rfl) (by kernel_rfl) ?_; intro W5 hB hP; have HS5 := Lib.hid (HS4.out.put 1 rfl (new := acA a) hB hP); clear hB hP HS4))
          refine (fault_c r A n c p y f _ (HS5.out.at_ 0 rfl)).mono ?_
          rintro e W6 ⟨rfl, hb⟩
          have HS6 := Lib.hid (HS5.out.after hb)
          clear hb HS5
          go_wp2_with fail
          refine (left_c r A n c p y f _ (HS6.out.at_ 0 rfl) hp (by have := HN.out; omega)).mono ?_
          rintro e W7 ⟨rfl, hb⟩
          have HS7 := Lib.hid (HS6.out.after hb)
          clear hb HS6
          go_wp2_with (first
            | (refine wpList_alloc_b rfl (some 8) rfl 30 (fltA 0 0) (by kernel_rfl) ?_; intro g8 W8 hb hB hg; have HS8 := Lib.hid (HS7.out.new hb hB hg); clear hb hB hg HS7)
            | (refine wpList_store_at rfl 30 _ _ rfl (HS8.out.at_ 2 rfl) (fltV y f) rfl rfl (by kernel_rfl) (Nat.le_of_ble_eq_true rfl) (by kernel_rfl) ?_; intro W9 hB hP; have HS9 := Lib.hid (HS8.out.put 2 rfl (new := fltA y f) hB hP); clear hB hP HS8)
            | (refine wpList_alloc_b rfl (some 12) rfl 41 z4 (by kernel_rfl) ?_; intro g10 W10 hb hB hg; have HS10 := Lib.hid (HS9.out.new hb hB hg); clear hb hB hg HS9)
            | (refine wpList_store_at rfl 41 _ _ rfl (HS10.out.at_ 3 rfl) (.agg z4) rfl rfl (by kernel_rfl) (Nat.le_of_ble_eq_true rfl) (by kernel_rfl) ?_; intro W11 hB hP; have HS11 := Lib.hid (HS10.out.put 3 rfl (new := z4) hB hP); clear hB hP HS10; obtain ⟨r1, r2, r3⟩ := HS11.out.rules 1 rfl))
          refine (rNodes_c r A n c p y f bs _ (HS11.out.rdIn 0 rfl HR.out hp HN.out.1 HN.out.2) v q y' f' HE.out).mono ?_
          rintro e W12 ⟨rfl, hM⟩
          have HS12 := Lib.hid (HS11.out.call 0 rfl hM)
          clear hM HS11 r1 r2 r3
          go_wp2_with (refine wpList_store_at rfl 41 _ _ rfl (HS12.out.at_ 3 rfl) (ndV (v 0) (v 1) (v 2) (v 3)) rfl rfl (by kernel_rfl) (Nat.le_of_ble_eq_true rfl) (by kernel_rfl) ?_; intro W13 hB hP; have HS13 := Lib.hid (HS12.out.put 3 rfl (new := (wordsA v)) hB hP); clear hB hP HS12)
          refine region_b (Ms w noB _) (by kernel_rfl) (by kernel_rfl) HS13.out ?_
          clear HS13
          intro W14 hS
          have HS14 := Lib.hid hS
          clear hS
          repeat (first | go_big_quiet_skip | (refine wpQuiet_load_b (by kernel_rfl) 30 _ rfl (HS14.out.at_ 2 rfl) 2 (fltV y f) rfl _ Try.underlying30 rfl (by kernel_rfl) (Nat.le_of_ble_eq_true rfl) rfl ?_) | (refine wpQuiet_neq (by kernel_rfl) 30 _ _ _ rfl rfl rfl (by kernel_rfl) true HI0.out ?_; go_simp) | go_big_quiet_step (first | with_reducible exact Calls.regrown_of (left_c r A n c q y' f' _ ((HS14.out.at_ 0 rfl).after (below_regrown _ _ _)) HQ.out (by have := HN.out; omega))) | quiet_step (first | with_reducible exact Calls.regrown_of (left_c r A n c q y' f' _ ((HS14.out.at_ 0 rfl).after (below_regrown _ _ _)) HQ.out (by have := HN.out; omega))))
          refine wpQuiet_nil ?_
          intro W15 hb
          have HS15 := Lib.hid (HS14.out.after hb)
          clear hb HS14
          go_wp2_with fail
          exact ⟨⟨k + 1, q, y', f', by omega, HQ.out, by go_num, Ms.cut (l := [blkR r A n c q y' f']) (k := [.blk g4 _ _, .blk g8 _ _, .blk g10 _ _]) HS15.out⟩, by simp [intOf]; omega⟩
        go_wp2_with (first
          | (refine wpList_load_ad (by kernel_rfl) 50 _ rfl (ad.add (k * 3)) (acL a) HC.out rfl _ (acV a) rfl Try.underlying50 rfl (by kernel_rfl) ?_)
          | (refine wpList_alloc_b rfl (some 7) rfl 50 #[.int .u8 0, .int .i64 0, .int .i64 0] (by kernel_rfl) ?_; intro g4 W4 hb hB hg; have HS4 := Lib.hid (HS3.out.new hb hB hg); clear hb hB hg HS3)
          | (refine wpList_store_at rfl 50 _ _ rfl (HS4.out.at_ 1 rfl) (acV a) rfl rfl (by kernel_rfl) (Nat.le_of_ble_eq_true rfl) (by kernel_rfl) ?_; intro W5 hB hP; have HS5 := Lib.hid (HS4.out.put 1 rfl (new := acA a) hB hP); clear hB hP HS4))
        refine (fault_c r A n c p y f _ (HS5.out.at_ 0 rfl)).mono ?_
        rintro e W6 ⟨rfl, hb⟩
        have HS6 := Lib.hid (HS5.out.after hb)
        clear hb HS5
        go_wp2_with fail
        refine (left_c r A n c p y f _ (HS6.out.at_ 0 rfl) hp (by have := HN.out; omega)).mono ?_
        rintro e W7 ⟨rfl, hb⟩
        have HS7 := Lib.hid (HS6.out.after hb)
        clear hb HS6
        go_wp2_with (first
          | (refine wpList_alloc_b rfl (some 8) rfl 30 (fltA 0 0) (by kernel_rfl) ?_; intro g8 W8 hb hB hg; have HS8 := Lib.hid (HS7.out.new hb hB hg); clear hb hB hg HS7)
          | (refine wpList_store_at rfl 30 _ _ rfl (HS8.out.at_ 2 rfl) (fltV y f) rfl rfl (by kernel_rfl) (Nat.le_of_ble_eq_true rfl) (by kernel_rfl) ?_; intro W9 hB hP; have HS9 := Lib.hid (HS8.out.put 2 rfl (new := fltA y f) hB hP); clear hB hP HS8)
          | (refine wpList_alloc_b rfl (some 12) rfl 41 z4 (by kernel_rfl) ?_; intro g10 W10 hb hB hg; have HS10 := Lib.hid (HS9.out.new hb hB hg); clear hb hB hg HS9)
          | (refine wpList_store_at rfl 41 _ _ rfl (HS10.out.at_ 3 rfl) (.agg z4) rfl rfl (by kernel_rfl) (Nat.le_of_ble_eq_true rfl) (by kernel_rfl) ?_; intro W11 hB hP; have HS11 := Lib.hid (HS10.out.put 3 rfl (new := z4) hB hP); clear hB hP HS10; obtain ⟨r1, r2, r3⟩ := HS11.out.rules 1 rfl))
        refine (rEnd_c r A n c p y f bs _ (HS11.out.rdIn 0 rfl HR.out hp HN.out.1 HN.out.2)).mono ?_
        rintro e W12 ⟨rfl, hM⟩
        have HS12 := Lib.hid (HS11.out.call 0 rfl hM)
        clear hM HS11 r1 r2 r3
        go_wp2_with fail
        refine region_b (Ms w noB _) (by kernel_rfl) (by kernel_rfl) HS12.out ?_
        clear HS12
        intro W14 hS
        have HS14 := Lib.hid hS
        clear hS
        repeat (first | go_big_quiet_skip | (refine wpQuiet_load_b (by kernel_rfl) 30 _ rfl (HS14.out.at_ 2 rfl) 2 (fltV y f) rfl _ Try.underlying30 rfl (by kernel_rfl) (Nat.le_of_ble_eq_true rfl) rfl ?_) | (refine wpQuiet_neq (by kernel_rfl) 30 _ _ _ rfl rfl rfl (by kernel_rfl) true HI0.out ?_; go_simp) | go_big_quiet_step (first | with_reducible exact Calls.regrown_of (left_c r A n c p (endR p n y f).1 (endR p n y f).2 _ ((HS14.out.at_ 0 rfl).after (below_regrown _ _ _)) hp (by have := HN.out; omega))) | quiet_step (first | with_reducible exact Calls.regrown_of (left_c r A n c p (endR p n y f).1 (endR p n y f).2 _ ((HS14.out.at_ 0 rfl).after (below_regrown _ _ _)) hp (by have := HN.out; omega))))
        refine wpQuiet_nil ?_
        intro W15 hb
        have HS15 := Lib.hid (HS14.out.after hb)
        clear hb HS14
        go_wp2_with fail
        exact ⟨⟨k + 1, p, (endR p n y f).1, (endR p n y f).2, by omega, hp, by go_num, Ms.cut (l := [blkR r A n c p (endR p n y f).1 (endR p n y f).2]) (k := [.blk g4 _ _, .blk g8 _ _, .blk g10 _ _]) HS15.out⟩, by simp [intOf]; omega⟩
    · go_wp2
      go_ret
      exact ⟨rfl, HS3.out.below⟩
end Go.Proofs.Ytphmaimgpolaoaa
