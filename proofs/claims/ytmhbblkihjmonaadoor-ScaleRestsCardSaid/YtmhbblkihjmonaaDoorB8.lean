/- Appending a whole slice of numbers; the reference's Or. -/
import Derived.Test.YtmhbblkihjmonaaDoorB7
import Derived.RegionTactic
import Derived.Deep.RegionLaw
set_option linter.unusedVariables false
namespace Go.Proofs.YtmhbblkihjmonaaDoor
open Go.RowKit

/-- append(v, ys...) onto a row of the call's own, ys read from wherever it lies, nil let in. -/
theorem run_append_ints (w : World) (base : Nat) (ty : TypeId) (v : Value) (xs ys : List Int) (A : Option Addr) (m c : Nat) (HO : w.ownsRow base 3 1 v xs.length (nums xs)) (HR : ReadsI w A m ys)
    (hbase : base ≤ w.heap.size) (hl : xs.length + m ≤ 17592186044416) :
    ∃ v1 w1, (Builtin.append_ #[29, 29] ty #[v, .slice A m c]).run Tryd.prog w = .ok v1 w1 ∧ w1.ownsRow base 3 1 v1 (xs ++ ys).length (nums (xs ++ ys)) ∧ w.grownBy w1 v.ownBlock := by
  obtain ⟨i0, hi, hzz⟩ := Option.map_eq_some_iff.1 info_int
  simp only [Prod.mk.injEq] at hzz
  obtain ⟨hz0, hz1, hz2⟩ := hzz
  rcases Nat.eq_zero_or_pos m with h0 | h0
  · subst h0
    obtain rfl : ys = [] := List.eq_nil_of_length_eq_zero HR.1
    cases A with
    | none =>
      refine ⟨v, w, ?_, by simpa using HO, World.grownBy.refl w _⟩
      rcases HO.2 with ⟨rfl, hl⟩ | ⟨g, cap, cur, rfl, _, _, hnc, _⟩
      · simp [Builtin.append_, run_underlying Tryd.underlying29, sizeOf, typeInfo, hi, Builtin.lenOf, Builtin.firstCells]
      · simp [Builtin.append_, run_underlying Tryd.underlying29, sizeOf, typeInfo, hi, Builtin.lenOf, Builtin.firstCells, hnc, storeCells]
    | some ad =>
      obtain ⟨v1, w1, hrun, h2, h3, _, h5⟩ := run_append_own_at (P := Tryd.prog) w base 29 ty 3 i0 (.int .i64 0) 1 8 Tryd.underlying29 hi hz0 hz1 hz2 rfl (by omega) v xs.length (nums xs) HO ad 0 c [] rfl (fun j u hu => by simp at hu) (by simp) (by simp only [maxLen]; omega) (by omega) hbase
      exact ⟨v1, w1, hrun, by simpa using h2, h3⟩
  · obtain ⟨ad, rfl, hc⟩ := HR.2.2 h0
    obtain ⟨v1, w1, hrun, h2, h3, _, h5⟩ := run_append_own_at (P := Tryd.prog) w base 29 ty 3 i0 (.int .i64 0) 1 8 Tryd.underlying29 hi hz0 hz1 hz2 rfl (by omega) v xs.length (nums xs) HO ad m c (nums ys) (by simp [nums, HR.1])
      (fun j u hu => by
        have hj : j < m := by
          have := (List.getElem?_eq_some_iff.1 hu).1
          rw [nums_length, HR.1] at this; exact this
        rw [hc j hj]
        have hjy : j < ys.length := by rw [HR.1]; exact hj
        have : (nums ys)[j]? = some (.int .i64 (ys.getD j 0)) := by simp [nums, List.getD_eq_getElem?_getD, List.getElem?_eq_getElem hjy]
        rw [← hu, this])
      (by intro u hu; simp only [nums, List.mem_map] at hu; obtain ⟨x, _, rfl⟩ := hu; rfl) (by simp only [maxLen]; omega) (by omega) hbase
    refine ⟨v1, w1, hrun, ?_, h3⟩
    rw [nums_append, List.length_append, HR.1]
    exact h2
/-- At the operation, in a region that draws its order. -/
theorem step_append_ints {ops : Array Oper} {o : Oper} {a : Act} {K : Act → World → Prop} {Q : Exit → Act → World → Prop} {E : Prop} {w : World} (base : Nat) (hgd : o.guard = none) (s x : Operand)
    (ho : o.op = .call { callee := .builtin .append, args := #[s, x], argTypes := #[29, 29] })
    (v : Value) (xs ys : List Int) (A : Option Addr) (m c : Nat) (hs : a.eval s = v) (hx : a.eval x = .slice A m c)
    (HO : w.ownsRow base 3 1 v xs.length (nums xs)) (HR : ReadsI w A m ys) (hbase : base ≤ w.heap.size) (hl : xs.length + m ≤ 17592186044416)
    (h : ∀ v1 w1, w1.ownsRow base 3 1 v1 (xs ++ ys).length (nums (xs ++ ys)) → w.grownBy w1 v.ownBlock → (∀ k, v.ownBlock = some k → base ≤ k) → K (a.put o.dst v1) w1) :
    if Region.wanted o (yielded ops a.tmps) = true then Oper.wp Tryd.prog o a w K Q else E := by
  rw [if_pos (by simp [Region.wanted, hgd])]
  obtain ⟨v1, w1, hrun, h2, h3⟩ := run_append_ints w base o.type v xs ys A m c HO HR hbase hl
  unfold Oper.wp execOp
  simp only [ho, resolve, invoke, builtin, Sem.run_bind, Sem.run_pure, Result.andThen_ok, List.map_toArray, List.map_cons, List.map_nil, hs, hx, hrun]
  exact h v1 w1 h2 h3 (own_base HO)

set_option maxHeartbeats 2000000 in
theorem ror_c (s t : NS) (w : World) :
    Calls Tryd.prog 20 #[nsV s, nsV t] w fun e w' => e = .returned (nsV (s ||| t)) ∧ Below w.heap.size w w' := by
  go_enter Tryd.func20, Tryd.ntmps20
  go_wp2_with fail
  go_region_law (first
    | (refine step_append_ints _ rfl (.tmp 6) (.tmp 8) rfl _ (lst s) (lst t) _ _ _ rfl rfl HO3.out HR2.out HS3.out HN.out ?_; intro v3 w3 hown4 hg3 hbb3; obtain ⟨A3, c3, rfl, hR3, _⟩ := own_reads hown4; rw [List.length_append] at hR3; have HR3 := Lib.hid hR3; have HG := Lib.hid hg3; have HBB := Lib.hid hbb3; clear hR3 hown4 hg3 hbb3)
    | (go_simp; (with_reducible refine (rlist_c s _).mono ?_); rintro e w1 ⟨v1, rfl, hown1, hb1⟩; obtain ⟨A1, c1, rfl, hR1, _⟩ := own_reads hown1; have HO1 := Lib.hid hown1; obtain ⟨hc1, hf1⟩ := bcell hb1; have HB1 := Lib.hid hb1; clear hown1 hb1 hR1)
    | (go_simp; (with_reducible refine (rlist_c t _).mono ?_); rintro e w2 ⟨v2, rfl, hown2, hb2⟩; obtain ⟨A2, c2, rfl, hR2, _⟩ := own_reads hown2; have HO3 := Lib.hid (own_after HO1.out hb2); have HR2 := Lib.hid hR2; have HB2 := Lib.hid hb2; have HS3 := Lib.hid (Nat.le_trans HB1.out.size hb2.size); have HN : Hid ((lst s).length + (lst t).length ≤ 17592186044416) := Lib.hid (by rw [lst_length, lst_length]; have := cnt_le s; have := cnt_le t; omega); clear hown2 hb2 hR2)
    | (go_simp; (with_reducible refine (rof_c _ _ _ _ _ HR3.out).mono ?_); rintro e w4 ⟨rfl, hb4⟩
       have z2 := ((Blk.new' (w := (w.alloc (.cells (nsA s) 24)).alloc (.cells (nsA t) 24)) (g := w.heap.size + 2) (t := 24) (cs := #[.int .u64 0, .int .u64 0, .int .u64 0, .int .u64 0]) (by simp)).drew.after HB1.out).after HB2.out
       have z3 := (z2.own HG.out (fun k hk => by have := HBB.out k hk; simp at this; omega)).after hb4
       have l2 := below_then (below_then ((((Below.refl w.heap.size w).alloc (by simp) (.cells (nsA s) 24)).alloc (by simp) (.cells (nsA t) 24)).alloc (by simp; omega) (.cells #[.int .u64 0, .int .u64 0, .int .u64 0, .int .u64 0] 24)).drew (by simp; omega) HB1.out) (by have := HB1.out.size; simp at this; omega) HB2.out
       have l3 := below_own l2 HG.out l2.size HBB.out (by simp; omega)
       have HL := Lib.hid (below_then l3 l3.size hb4)
       have HZ := Lib.hid z3
       obtain ⟨r1, r2, r3⟩ := z3.rules
       clear z2 z3 l2 l3 hb4))
  all_goals
    go_wp2
    exact post_cell rfl rfl (HZ.out.four _ _ _ _) Tryd.underlying24 rfl (by kernel_rfl) rfl ⟨by rw [ofL_append, ofL_lst, ofL_lst], below_four HL.out (by omega) _ _ _ _⟩

/-! ### First, Nth, Move of the reference -/
theorem slice_cut (A : Option Addr) (n c : Nat) (xs : List Int) (w : World) (k : Nat) (hR : ReadsI w A n xs) (hk : k ≤ n) : ReadsI w A k (xs.take k) :=
  ⟨by rw [List.length_take, hR.1]; omega, by have := hR.2.1; omega, fun h => by
    obtain ⟨ad, e, hc⟩ := hR.2.2 (by omega)
    refine ⟨ad, e, fun j hj => ?_⟩
    rw [hc j (by omega)]
    congr 2
    simp [List.getD_eq_getElem?_getD, hj]⟩
theorem rnth_in (s : NS) (k : Int) (w : World) (h : 0 ≤ k) (h2 : k < cnt s) :
    Calls Tryd.prog 36 #[nsV s, .int .i64 k] w fun e w' => e = .returned (.tuple #[.int .i64 ((lst s).getD k.toNat 0), .bool true]) ∧ Below w.heap.size w w' := by
  go_enter Tryd.func36, Tryd.ntmps36
  go_wp2_with fail
  refine (rlist_c s _).mono ?_
  rintro e w1 ⟨v, rfl, hown, hb⟩
  obtain ⟨A, c, hv, hR, _⟩ := own_reads hown
  rw [hv, lst_length]
  rw [lst_length] at hR
  have HL := Lib.hid (below_then ((Below.refl w.heap.size w).alloc (by simp) _) (by simp) hb)
  obtain ⟨ad, rfl, hc⟩ := hR.at_ (Below.refl _ _) (show k.toNat < cnt s by omega)
  clear hv hR hown hb
  go_wp2_with fail
  go_ret2
  exact ⟨by simp, HL.out⟩
theorem rnth_out (s : NS) (k : Int) (w : World) (h : k < 0 ∨ (cnt s : Int) ≤ k) :
    Calls Tryd.prog 36 #[nsV s, .int .i64 k] w fun e w' => e = .returned (.tuple #[.int .i64 0, .bool false]) ∧ Below w.heap.size w w' := by
  rcases h with h | h
  all_goals
    go_enter Tryd.func36, Tryd.ntmps36
    go_wp2_with fail
    refine (rlist_c s _).mono ?_
    rintro e w1 ⟨v, rfl, hown, hb⟩
    obtain ⟨A, c, hv, hR, _⟩ := own_reads hown
    rw [hv, lst_length]
    have HL := Lib.hid (below_then ((Below.refl w.heap.size w).alloc (by simp) _) (by simp) hb)
    clear hv hR hown hb
    go_wp2_with fail
    go_ret2
    exact ⟨rfl, HL.out⟩
theorem rfirst_in (s : NS) (k : Int) (w : World) (h : 0 ≤ k) (h2 : k ≤ cnt s) :
    Calls Tryd.prog 34 #[nsV s, .int .i64 k] w fun e w' => e = .returned (.tuple #[nsV (ofL ((lst s).take k.toNat)), .bool true]) ∧ Below w.heap.size w w' := by
  go_enter Tryd.func34, Tryd.ntmps34
  go_wp2_with fail
  refine (rlist_c s _).mono ?_
  rintro e w1 ⟨v, rfl, hown, hb⟩
  obtain ⟨A, c, hv, hR, hcap⟩ := own_reads hown
  rw [hv, lst_length]
  rw [lst_length] at hR hcap
  have HL := Lib.hid (below_then (((Below.refl w.heap.size w).alloc (by simp) _).alloc (by simp) _) (by simp; omega) hb)
  have HZ := Lib.hid ((Blk.new' (w := w.alloc (.cells (nsA s) 24)) (g := w.heap.size + 1) (t := 24) (cs := #[.int .u64 0, .int .u64 0, .int .u64 0, .int .u64 0]) (by simp)).after hb)
  have HR := Lib.hid (slice_cut A (cnt s) c (lst s) w1 k.toNat hR (by omega))
  have hkc : k ≤ c := by omega
  clear hv hR hown hb hcap
  go_wp2_with fail
  refine (rof_c _ _ _ _ _ HR.out).mono ?_
  rintro e w2 ⟨rfl, hb2⟩
  have HZ2 := Lib.hid (HZ.out.after hb2)
  have HL2 := Lib.hid (below_then HL.out HL.out.size hb2)
  obtain ⟨r1, r2, r3⟩ := HZ2.out.rules
  clear hb2
  go_wp2_with fail
  exact post_cell_tmp rfl rfl rfl (HZ2.out.four _ _ _ _) Tryd.underlying24 rfl (by kernel_rfl) rfl ⟨rfl, below_four HL2.out (by omega) _ _ _ _⟩
theorem rfirst_out (s : NS) (k : Int) (w : World) (h : k < 0 ∨ (cnt s : Int) < k) :
    Calls Tryd.prog 34 #[nsV s, .int .i64 k] w fun e w' => e = .returned (.tuple #[nsV emptyS, .bool false]) ∧ Below w.heap.size w w' := by
  rw [empty_val]
  rcases h with h | h
  all_goals
    go_enter Tryd.func34, Tryd.ntmps34
    go_wp2_with fail
    refine (rlist_c s _).mono ?_
    rintro e w1 ⟨v, rfl, hown, hb⟩
    obtain ⟨A, c, hv, hR, _⟩ := own_reads hown
    rw [hv, lst_length]
    have HL := Lib.hid (below_then (((Below.refl w.heap.size w).alloc (by simp) _).alloc (by simp) _) (by simp; omega) hb)
    have HZ := Lib.hid ((Blk.new' (w := w.alloc (.cells (nsA s) 24)) (g := w.heap.size + 1) (t := 24) (cs := #[.int .u64 0, .int .u64 0, .int .u64 0, .int .u64 0]) (by simp)).after hb)
    obtain ⟨r1, r2, r3⟩ := HZ.out.rules
    clear hv hR hown hb
    go_wp2_with fail
    exact post_cell_tmp rfl rfl rfl (HZ.out.four _ _ _ _) Tryd.underlying24 rfl (by kernel_rfl) rfl ⟨rfl, below_four HL.out (by omega) _ _ _ _⟩

/-- What First is, of any set. -/
def firstS (s : NS) (k : Int) : NS := if 0 ≤ k ∧ k ≤ cnt s then ofL ((lst s).take k.toNat) else emptyS
def firstOk (s : NS) (k : Int) : Bool := decide (0 ≤ k) && decide (k ≤ cnt s)
def nthV (s : NS) (k : Int) : Int := if 0 ≤ k ∧ k < cnt s then (lst s).getD k.toNat 0 else 0
def nthOk (s : NS) (k : Int) : Bool := decide (0 ≤ k) && decide (k < cnt s)
theorem rnth_c (s : NS) (k : Int) (w : World) :
    Calls Tryd.prog 36 #[nsV s, .int .i64 k] w fun e w' => e = .returned (.tuple #[.int .i64 (nthV s k), .bool (nthOk s k)]) ∧ Below w.heap.size w w' := by
  unfold nthV nthOk
  by_cases h : 0 ≤ k ∧ k < cnt s
  · rw [if_pos h, decide_eq_true h.1, decide_eq_true h.2]; exact rnth_in s k w h.1 h.2
  · rw [if_neg h]
    have hf : (decide (0 ≤ k) && decide (k < (cnt s : Int))) = false := by simp; omega
    rw [hf]
    exact rnth_out s k w (by omega)
theorem rfirst_c (s : NS) (k : Int) (w : World) :
    Calls Tryd.prog 34 #[nsV s, .int .i64 k] w fun e w' => e = .returned (.tuple #[nsV (firstS s k), .bool (firstOk s k)]) ∧ Below w.heap.size w w' := by
  unfold firstS firstOk
  by_cases h : 0 ≤ k ∧ k ≤ cnt s
  · rw [if_pos h, decide_eq_true h.1, decide_eq_true h.2]; exact rfirst_in s k w h.1 h.2
  · rw [if_neg h]
    have hf : (decide (0 ≤ k) && decide (k ≤ (cnt s : Int))) = false := by simp; omega
    rw [hf]
    exact rfirst_out s k w (by omega)
end Go.Proofs.YtmhbblkihjmonaaDoor
