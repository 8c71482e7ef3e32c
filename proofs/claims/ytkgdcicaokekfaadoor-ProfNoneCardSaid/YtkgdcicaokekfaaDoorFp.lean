/- Prof: ProfNone. -/
import Derived.Test.YtkgdcicaokekfaaDoorFn
set_option linter.unusedVariables false
namespace Go.Proofs.YtkgdcicaokekfaaDoor
open Go.RowKit Go.Sort

section
variable {w W0 W5 : World} {L0 : List Own} {lo : Int} {A2 : Option Addr} {m c2 : Nat} {ts : List Int}
abbrev rowI (A : Option Addr) (n c : Nat) (xs : List Int) : Own := .row 3 1 (.slice A n c) n (nums xs)
theorem append_two {L : List Own} (h : Ms w noB L W0) (i j : Nat) {gb : Nat} (hi : L[i]? = some (.row 3 1 (.slice (some ⟨gb, 0, none⟩) 1 1) 1 [.int .i64 lo])) (hj : L[j]? = some (rowI A2 m c2 ts)) (hm : m ≤ 1048576) (hm0 : 0 < m) (hts : ts.length = m) :
    ∃ A' c' W', (Builtin.append_ #[46, 46] 46 #[.slice (some ⟨gb, 0, none⟩) 1 1, .slice A2 m c2]).run Tryd.prog W0 = .ok (.slice A' (m + 1) c') W' ∧ Ms w noB (L.set i (rowI A' (m + 1) c' (lo :: ts))) W' := by
  have hI : (Tryd.prog.info? 3).map (fun i => (i.zero, i.size, i.bytes)) = some (some (.int .i64 0), 1, 8) := by kernel_rfl
  obtain ⟨i0, hi0, hzz⟩ := Option.map_eq_some_iff.1 hI
  simp only [Prod.mk.injEq] at hzz
  obtain ⟨hz0, hz1, hz2⟩ := hzz
  obtain ⟨ad, e, hc⟩ := (ReadsI.of_row (h.own j hj) hts).2.2 hm0
  subst e
  obtain ⟨v', w', hr, h2, h3, _, h5⟩ := run_append_own_at (P := Tryd.prog) W0 0 46 46 3 i0 (.int .i64 0) 1 8 Tryd.underlying46 hi0 hz0 hz1 hz2 rfl (by decide) _ 1 _ (h.own i hi) ad m c2 (nums ts)
    (by simp [nums, hts]) (fun k u hu => by
      have hk : k < m := by
        rcases Nat.lt_or_ge k m with h9 | h9
        · exact h9
        · rw [List.getElem?_eq_none (by simp [nums, hts]; omega)] at hu; cases hu
      rw [hc k hk, ← hu]
      simp [nums, hts, hk, List.getD_eq_getElem?_getD]) (fun u hu => by simp only [nums, List.mem_map] at hu; obtain ⟨b, _, rfl⟩ := hu; rfl) (by simp only [maxLen]; omega) (by omega) (Nat.zero_le _)
  obtain ⟨A', c', rfl⟩ := row_slice h2
  rw [Nat.add_comm 1 m] at h2 hr h5
  refine ⟨A', c', w', hr, ?_⟩
  have e1 : [Value.int .i64 lo] ++ nums ts = nums (lo :: ts) := rfl
  rw [e1] at h2
  have h4 := h.grown i (v' := .slice A' (m + 1) c') (n' := m + 1) hi h2 h3 (by
    rcases h5 with h5 | h5
    · exact .inl h5
    · exact .inr (.inl h5))
  exact h4
/-- First the one, then the others are made. -/
theorem way1 {g : Nat} {cs : Array Value} (hh : Ms w noB L0 W0 ∧ (∀ o, W0.cell? ⟨g, o, none⟩ = cs[o]?)) (hM : Ms (W0.alloc (.cells #[.int .i64 lo] 3)) noB [rowI A2 m c2 ts] W5) (hm : m ≤ 1048576) (hm0 : 0 < m) (hts : ts.length = m) :
    ∃ A' c' W', (Builtin.append_ #[46, 46] 46 #[.slice (some ⟨W0.heap.size, 0, none⟩) 1 1, .slice A2 m c2]).run Tryd.prog W5 = .ok (.slice A' (m + 1) c') W' ∧ Ms w noB (L0 ++ [rowI A' (m + 1) c' (lo :: ts)]) W' := by
  have h1 := (hh.1.newRow (n := 1) (size := 1) ((Below.refl _ _).alloc (Nat.le_refl _) (Obj.cells #[.int .i64 lo] 3)) (Blk.new _ _ _) (Nat.le_refl _) rfl (by decide)).made hM
  obtain ⟨A', c', W', hr, h2⟩ := append_two (lo := lo) (gb := W0.heap.size) (A2 := A2) (m := m) (c2 := c2) (ts := ts) h1 L0.length (L0.length + 1) (by simp) (by simp) hm hm0 hts
  refine ⟨A', c', W', hr, ?_⟩
  have h3 : Ms w noB ((L0 ++ [rowI A' (m + 1) c' (lo :: ts)]) ++ [rowI A2 m c2 ts]) W' := by simpa using h2
  exact h3.cut
theorem way1d (hh : Ms w noB L0 W0) (hM : Ms ((W0.alloc (.cells #[.int .i64 lo] 3)).drew) noB [rowI A2 m c2 ts] W5) (hm : m ≤ 1048576) (hm0 : 0 < m) (hts : ts.length = m) :
    ∃ A' c' W', (Builtin.append_ #[46, 46] 46 #[.slice (some ⟨W0.heap.size, 0, none⟩) 1 1, .slice A2 m c2]).run Tryd.prog W5 = .ok (.slice A' (m + 1) c') W' ∧ Ms w noB (L0 ++ [rowI A' (m + 1) c' (lo :: ts)]) W' :=
  way1 (W0 := W0.drew) (g := W0.heap.size) (cs := #[]) ⟨hh.after (Below.refl _ _).drew, fun o => by
    show World.cell? W0 _ = none
    simp [World.cell?]⟩ hM hm hm0 hts
/-- First the others, then the one. -/
theorem way2 {g : Nat} {cs : Array Value} (hh : Ms w noB L0 W0 ∧ (∀ o, W0.cell? ⟨g, o, none⟩ = cs[o]?)) (hM : Ms W0 noB [rowI A2 m c2 ts] W5) (hm : m ≤ 1048576) (hm0 : 0 < m) (hts : ts.length = m) :
    ∃ A' c' W', (Builtin.append_ #[46, 46] 46 #[.slice (some ⟨W5.heap.size, 0, none⟩) 1 1, .slice A2 m c2]).run Tryd.prog (W5.alloc (.cells #[.int .i64 lo] 3)) = .ok (.slice A' (m + 1) c') W' ∧ Ms w noB (L0 ++ [rowI A' (m + 1) c' (lo :: ts)]) W' := by
  have h1 := (hh.1.made hM).newRow (n := 1) (size := 1) ((Below.refl _ _).alloc (Nat.le_refl _) (Obj.cells #[.int .i64 lo] 3)) (Blk.new _ _ _) (Nat.le_refl _) rfl (by decide)
  obtain ⟨A', c', W', hr, h2⟩ := append_two (lo := lo) (gb := W5.heap.size) (A2 := A2) (m := m) (c2 := c2) (ts := ts) h1 (L0.length + 1) L0.length (by simp) (by simp) hm hm0 hts
  refine ⟨A', c', W', hr, ?_⟩
  have h3 : Ms w noB (L0 ++ [rowI A2 m c2 ts] ++ [rowI A' (m + 1) c' (lo :: ts)]) W' := by simpa using h2
  exact h3.pick (fun k => if k < L0.length then k else L0.length + 1) _ (fun i o hi => by
    rw [List.getElem?_append] at hi
    split at hi
    · rename_i hlt
      simp only [if_pos hlt]
      rw [List.append_assoc, List.getElem?_append_left hlt]; exact hi
    · rename_i hge
      simp only [if_neg hge]
      have e : i = L0.length := by
        by_cases e : i = L0.length
        · exact e
        · rw [List.getElem?_eq_none (by simp; omega)] at hi; cases hi
      subst e
      simp at hi
      simp [hi]) (fun a b ha hb he => by
    simp only [List.length_append, List.length_cons, List.length_nil] at ha hb
    split at he <;> split at he <;> omega)
theorem keepSt {g : Nat} {cs : Array Value} {o : Own} (hh : Ms w noB L0 W0 ∧ (∀ o, W0.cell? ⟨g, o, none⟩ = cs[o]?)) (hg : ∃ (i : Nat) (t : TypeId), L0[i]? = some (.blk g t cs)) (hM : Ms W0 noB [o] W5) : Ms w noB L0 W5 ∧ (∀ o, W5.cell? ⟨g, o, none⟩ = cs[o]?) := by
  obtain ⟨i, t, hi⟩ := hg
  exact ⟨hh.1.after hM.below, ((hh.1.after hM.below).at_ i hi).cell⟩
theorem keepAl {g : Nat} {cs : Array Value} (hh : Ms w noB L0 W0 ∧ (∀ o, W0.cell? ⟨g, o, none⟩ = cs[o]?)) (hg : ∃ (i : Nat) (t : TypeId), L0[i]? = some (.blk g t cs)) (x : Obj) : Ms w noB L0 (W0.alloc x) ∧ (∀ o, (W0.alloc x).cell? ⟨g, o, none⟩ = cs[o]?) := by
  obtain ⟨i, t, hi⟩ := hg
  have hb : Below W0.heap.size W0 (W0.alloc x) := (Below.refl _ _).alloc (Nat.le_refl _) x
  exact ⟨hh.1.after hb, ((hh.1.after hb).at_ i hi).cell⟩
theorem keepFin {g : Nat} {cs : Array Value} {k : List Own} (h : Ms w noB (L0 ++ k) W0) (hg : ∃ (i : Nat) (t : TypeId), L0[i]? = some (.blk g t cs)) : Ms w noB L0 W0 ∧ (∀ o, W0.cell? ⟨g, o, none⟩ = cs[o]?) := by
  obtain ⟨i, t, hi⟩ := hg
  exact ⟨h.cut, (h.cut.at_ i hi).cell⟩
theorem wp_append {P : Program} {o : Oper} {a : Act} {K : Act → World → Prop} {Q : Exit → Act → World → Prop} (s x : Operand) (t : TypeId) (ho : o.op = .call { callee := .builtin .append, args := #[s, x], argTypes := #[t, t] }) (v1 v2 : Value) (hs : a.eval s = v1) (hx : a.eval x = v2)
    (v : Value) (hr : (Builtin.append_ #[t, t] o.type #[v1, v2]).run P W0 = .ok v W5) (hK : K (a.put o.dst v) W5) : o.wp P a W0 K Q := by
  unfold Oper.wp execOp
  simp only [ho, resolve, invoke, builtin, Sem.run_bind, Sem.run_pure, Result.andThen_ok, List.map_toArray, List.map_cons, List.map_nil, hs, hx, hr]
  exact hK
theorem keepDr {g : Nat} {cs : Array Value} (h : Ms w noB L0 W0) (hg : ∃ (i : Nat) (t : TypeId), L0[i]? = some (.blk g t cs)) : Ms w noB L0 W0.drew ∧ (∀ o, W0.drew.cell? ⟨g, o, none⟩ = cs[o]?) := by
  obtain ⟨i, t, hi⟩ := hg
  have hb : Below W0.heap.size W0 W0.drew := (Below.refl _ _).drew
  exact ⟨h.after hb, ((h.after hb).at_ i hi).cell⟩
end
theorem no_will {nodes : NS} {l : List (Sp NS)} {n long t : Int} {of : NS} (h : ¬ Will nodes l 2199023255552 n long of t) (ht : t + long ≤ 2199023255552) : ((cnt (durS nodes l t (t + long) &&& of) : Nat) : Int) < n := by
  unfold Will at h
  omega
theorem step_times {l : List (Sp NS)} (hG : Good l) : ∀ t ∈ l.map Sp.at_, 0 ≤ t ∧ t < 2199023255552 := by
  intro t ht
  obtain ⟨s, hs, rfl⟩ := List.mem_map.1 ht
  obtain ⟨i, hi, e⟩ := List.getElem_of_mem hs
  have := stp_bounds hG.prf hi
  have e2 : stp emptyS l i = s := by simp [stp, List.getD_eq_getElem?_getD, hi, e]
  rw [e2] at this
  exact this
theorem notS_first {D : NS} {n : Int} (h : firstOk D n = true) : notS (firstS D n) D = emptyS ∧ ((cnt (firstS D n) : Nat) : Int) = n := by
  unfold firstOk at h
  simp only [Bool.and_eq_true, decide_eq_true_eq] at h
  unfold firstS
  rw [if_pos h]
  constructor
  · refine ns_ext fun b hb => ?_
    rw [notS_bit _ _ _ hb, empty_bit]
    cases h1 : (ofL ((lst D).take n.toNat)).getLsbD b
    · rfl
    · rw [ofL_bit] at h1
      simp only [hb, decide_true, Bool.true_and, decide_eq_true_eq] at h1
      have := mem_lst.1 (List.mem_of_mem_take h1)
      rw [hasS_nat] at this
      rw [this]; rfl
  · rw [cnt_ofL_rising ((lst_sorted D).sublist (List.take_sublist _ _)) (fun i hi => lst_range (List.mem_of_mem_take hi)), List.length_take, lst_length]
    omega
set_option maxRecDepth 100000 in
set_option maxHeartbeats 64000000 in
theorem profNone_w (nodes : NS) (A : Option Addr) (n c : Nat) (acts : List Ak) (qn long lo : Int) (of : NS) (w : World) (hA : ReadsAk w A n c acts) (hT : TabW w)
    (kq : -9223372036854775808 ≤ qn ∧ qn ≤ 9223372036854775807) (kl : -9223372036854775808 ≤ long ∧ long ≤ 9223372036854775807) (ko : -9223372036854775808 ≤ lo ∧ lo ≤ 9223372036854775807) :
    Calls Tryd.prog 4 #[nsV nodes, .slice A n c, .agg #[.int .i64 qn, .int .i64 long, .int .i64 lo, .int .u64 (wn of 0 : Nat), .int .u64 (wn of 1 : Nat), .int .u64 (wn of 2 : Nat), .int .u64 (wn of 3 : Nat)]] w fun e w' => e = .returned (.bool true) ∧ Below w.heap.size w w' := by
  have HA := Lib.hid hA
  have HTab := Lib.hid hT
  have hnI : (n : Int) ≤ 9223372036854775807 := by have := hA.2.1; have := hA.2.2.1; omega
  have H14 := Lib.hid (show min n 14 ≤ n by omega)
  clear hA hT
  go_enter Tryd.func4, Tryd.ntmps4
  have HS0 := Lib.hid (Ms.nil w noB)
  go_wp2_with (first
    | (have hq := HS0; clear hq; (with_reducible refine atBox ?_); refine wpList_alloc_b rfl (some 3) rfl 24 ((nsA nodes)) (by kernel_rfl) ?_; intro g1 W1 hb hB hg; have HS1 := Lib.hid (HS0.out.new hb hB hg); clear hb hB hg HS0)
    | (have hq := HS1; clear hq; (with_reducible refine atBox ?_); refine wpList_alloc_b rfl (some 5) rfl 29 (#[.int .i64 qn, .int .i64 long, .int .i64 lo, .int .u64 (wn of 0 : Nat), .int .u64 (wn of 1 : Nat), .int .u64 (wn of 2 : Nat), .int .u64 (wn of 3 : Nat)]) (by kernel_rfl) ?_; intro g2 W2 hb hB hg; have HS2 := Lib.hid (HS1.out.new hb hB hg); clear hb hB hg HS1)
    | (have hq := HS2; clear hq; (with_reducible refine atLoad ?_); refine wpList_load_at rfl 24 _ rfl (HS2.out.at_ 0 rfl) 4 (nsV nodes) rfl _ Tryd.underlying24 rfl (by kernel_rfl) (Nat.le_of_ble_eq_true rfl) rfl ?_))
  refine (new_f nodes _).mono ?_
  rintro e W3 ⟨p3, rfl, A3, c3, hM⟩
  have HS3 := Lib.hid (HS2.out.made hM)
  clear hM HS2
  go_wp2_with fail
  have HG3 := Lib.hid (good_one nodes)
  go_wp2_with fail
  refine (short_pc A n c acts _ (HA.out.below HS3.out.below)).mono ?_
  rintro e w' ⟨rfl, rfl⟩
  go_wp2_with fail
  obtain ⟨p, hp⟩ : ∃ p, p = p3 := ⟨_, rfl⟩
  rw [← hp] at HS3 ⊢
  clear hp
  go_loopw [34] (fun k wr => ∃ (kk : Nat) (A2 : Option Addr) (c2 : Nat) (l : List (Sp NS)), kk ≤ min n 14 ∧ k = .int .i64 (kk : Nat) ∧ Hid (Good l) ∧ Hid (Ms w noB [(.blk g1 24 (nsA nodes)), (.blk g2 29 #[.int .i64 qn, .int .i64 long, .int .i64 lo, .int .u64 (wn of 0 : Nat), .int .u64 (wn of 1 : Nat), .int .u64 (wn of 2 : Nat), .int .u64 (wn of 3 : Nat)]), .pf p nodes A2 c2 l] wr)) (fun k _ => min n 14 - (intOf k).toNat)
  case atStart => exact ⟨0, _, _, _, by omega, rfl, HG3, HS3⟩
  case round =>
    obtain ⟨k, A2, c2, l, hkm, rfl, HG, HS4⟩ := hrel
    have hkI : (k : Int) ≤ ((min n 14 : Nat) : Int) := by omega
    by_cases hlt : k < min n 14
    · have hltI : (k : Int) < ((min n 14 : Nat) : Int) := by omega
      obtain ⟨ad, rfl, hc⟩ := HA.out.2.2.2 (by omega)
      obtain ⟨x, hx⟩ : ∃ x, acts[k]? = some x := ⟨_, List.getElem?_eq_getElem (by have := HA.out.1; omega)⟩
      have HC := Lib.hid (fun j v hv => (HS4.out.below.cell (block_lt_of_cell (hc k x hx j v hv))).trans (hc k x hx j v hv))
      clear hc hx
      go_wp2_with (first
        | (have hq := HC; clear hq; refine wpList_load_ad (by kernel_rfl) 27 _ rfl (ad.add (k * 7)) (akL x) HC.out rfl _ (akV x) rfl Tryd.underlying27 rfl (by kernel_rfl) ?_; clear HC)
        | (have hq := HS4; clear hq; (with_reducible refine atAlloc ?_); refine wpList_alloc_b rfl (some 10) rfl 27 (#[.bool false, .int .u64 0, .int .u64 0, .int .u64 0, .int .u64 0, .int .i64 0, .int .i64 0]) (by kernel_rfl) ?_; intro g5 W5 hb hB hg; have HS5 := Lib.hid (HS4.out.new hb hB hg); clear hb hB hg HS4)
        | (have hq := HS5; clear hq; (with_reducible refine atStore ?_); refine wpList_store_at rfl 27 _ _ rfl (HS5.out.at_ 3 rfl) (akV x) rfl rfl (by kernel_rfl) (Nat.le_of_ble_eq_true rfl) (by kernel_rfl) ?_; intro W6 hB hP; have HS6 := Lib.hid (HS5.out.put 3 rfl (new := (akA x)) hB hP); clear hB hP HS5)
        | (have hq := HS6; clear hq; (with_reducible refine atLoad ?_); refine wpList_load_at rfl 27 _ rfl (HS6.out.at_ 3 rfl) 7 (akV x) rfl _ Tryd.underlying27 rfl (by kernel_rfl) (Nat.le_of_ble_eq_true rfl) rfl ?_))
      refine (does_f p nodes A2 c2 l x _ HG.out (HS6.out.ok 2 _ rfl)).mono ?_
      rintro e W7 ⟨v, l2, rfl, hv, hl, A7, c7, hM⟩
      have HS7 := Lib.hid (HS6.out.call 2 rfl hM)
      clear hM HS6
      have HG2 := Lib.hid (hl ▸ HG.out.does : Good l2)
      clear hv hl
      go_wp2_with fail
      refine ⟨⟨k + 1, A7, c7, l2, by omega, by go_num, HG2, ?_⟩, by simp [intOf]; omega⟩
      exact Lib.hid (Ms.cut (l := [(.blk g1 24 (nsA nodes)), (.blk g2 29 #[.int .i64 qn, .int .i64 long, .int .i64 lo, .int .u64 (wn of 0 : Nat), .int .u64 (wn of 1 : Nat), .int .u64 (wn of 2 : Nat), .int .u64 (wn of 3 : Nat)]), .pf p nodes A7 c7 l2]) (k := [(.blk g5 27 (akA x))]) HS7.out)
    · obtain rfl : k = min n 14 := by omega
      obtain ⟨r1a, r1b, r1c⟩ := HS4.out.rules 1 rfl
      go_wp2_with (have hq := HS4; clear hq; (with_reducible refine atLoad ?_); refine wpList_load_at rfl 24 _ rfl (HS4.out.at_ 1 rfl) 4 (.agg #[.int .u64 (wn of 0 : Nat), .int .u64 (wn of 1 : Nat), .int .u64 (wn of 2 : Nat), .int .u64 (wn of 3 : Nat)]) rfl _ Tryd.underlying24 rfl (by kernel_rfl) (Nat.le_of_ble_eq_true rfl) rfl ?_)
      refine (early_f p nodes _ _ l qn long lo of _ HG.out (HS4.out.ok 2 _ rfl) (HTab.out.after HS4.out.below)).mono ?_
      rintro e W5 ⟨⟨t1, F1, f1, rfl, hR⟩, hb⟩
      have HS5 := Lib.hid (HS4.out.after hb)
      clear hb HS4 r1a r1b r1c
      rcases hR with ⟨rfl, hbad, rfl⟩ | ⟨rfl, hnb, hno⟩ | ⟨rfl, hnb, hE, hF⟩
      · have hbad2 := hbad
        clear hbad
        unfold badAsk at hbad2
        by_cases q0 : qn < 0
        · clear hbad2
          go_wp2_with (first
            | (have hq := HS5; clear hq; (with_reducible refine atAlloc ?_); refine wpList_alloc_b rfl (some 12) rfl 24 (#[.int .u64 0, .int .u64 0, .int .u64 0, .int .u64 0]) (by kernel_rfl) ?_; intro g6 W6 hb hB hg; have HS6 := Lib.hid (HS5.out.new hb hB hg); clear hb hB hg HS5)
            | (have hq := HS6; clear hq; (with_reducible refine atStore ?_); refine wpList_store_at rfl 24 _ _ rfl (HS6.out.at_ 3 rfl) (nsV emptyS) rfl rfl (by kernel_rfl) (Nat.le_of_ble_eq_true rfl) (by kernel_rfl) ?_; intro W7 hB hP; have HS7 := Lib.hid (HS6.out.put 3 rfl (new := (nsA emptyS)) hB hP); clear hB hP HS6; obtain ⟨r1a, r1b, r1c⟩ := HS7.out.rules 1 rfl))
          refine (alive_c _ (HTab.out.after HS7.out.below)).mono ?_
          rintro e W8 ⟨rfl, hb⟩
          have HS8 := Lib.hid (HS7.out.after hb)
          clear hb HS7 r1a r1b r1c
          go_wp2_with fail
          go_ret
          exact ⟨rfl, HS8.out.below⟩
        · have q0n : 0 ≤ qn := by omega
          by_cases q1 : 256 < qn
          · clear hbad2
            go_wp2_with (first
              | (have hq := HS5; clear hq; (with_reducible refine atAlloc ?_); refine wpList_alloc_b rfl (some 12) rfl 24 (#[.int .u64 0, .int .u64 0, .int .u64 0, .int .u64 0]) (by kernel_rfl) ?_; intro g6 W6 hb hB hg; have HS6 := Lib.hid (HS5.out.new hb hB hg); clear hb hB hg HS5)
              | (have hq := HS6; clear hq; (with_reducible refine atStore ?_); refine wpList_store_at rfl 24 _ _ rfl (HS6.out.at_ 3 rfl) (nsV emptyS) rfl rfl (by kernel_rfl) (Nat.le_of_ble_eq_true rfl) (by kernel_rfl) ?_; intro W7 hB hP; have HS7 := Lib.hid (HS6.out.put 3 rfl (new := (nsA emptyS)) hB hP); clear hB hP HS6; obtain ⟨r1a, r1b, r1c⟩ := HS7.out.rules 1 rfl))
            refine (alive_c _ (HTab.out.after HS7.out.below)).mono ?_
            rintro e W8 ⟨rfl, hb⟩
            have HS8 := Lib.hid (HS7.out.after hb)
            clear hb HS7 r1a r1b r1c
            go_wp2_with fail
            go_ret
            exact ⟨rfl, HS8.out.below⟩
          · have q1n : qn ≤ 256 := by omega
            by_cases q2 : long < 1
            · clear hbad2
              go_wp2_with (first
                | (have hq := HS5; clear hq; (with_reducible refine atAlloc ?_); refine wpList_alloc_b rfl (some 12) rfl 24 (#[.int .u64 0, .int .u64 0, .int .u64 0, .int .u64 0]) (by kernel_rfl) ?_; intro g6 W6 hb hB hg; have HS6 := Lib.hid (HS5.out.new hb hB hg); clear hb hB hg HS5)
                | (have hq := HS6; clear hq; (with_reducible refine atStore ?_); refine wpList_store_at rfl 24 _ _ rfl (HS6.out.at_ 3 rfl) (nsV emptyS) rfl rfl (by kernel_rfl) (Nat.le_of_ble_eq_true rfl) (by kernel_rfl) ?_; intro W7 hB hP; have HS7 := Lib.hid (HS6.out.put 3 rfl (new := (nsA emptyS)) hB hP); clear hB hP HS6; obtain ⟨r1a, r1b, r1c⟩ := HS7.out.rules 1 rfl))
              refine (alive_c _ (HTab.out.after HS7.out.below)).mono ?_
              rintro e W8 ⟨rfl, hb⟩
              have HS8 := Lib.hid (HS7.out.after hb)
              clear hb HS7 r1a r1b r1c
              go_wp2_with fail
              go_ret
              exact ⟨rfl, HS8.out.below⟩
            · have q2n : 1 ≤ long := by omega
              by_cases q3 : 1099511627776 < long
              · clear hbad2
                go_wp2_with (first
                  | (have hq := HS5; clear hq; (with_reducible refine atAlloc ?_); refine wpList_alloc_b rfl (some 12) rfl 24 (#[.int .u64 0, .int .u64 0, .int .u64 0, .int .u64 0]) (by kernel_rfl) ?_; intro g6 W6 hb hB hg; have HS6 := Lib.hid (HS5.out.new hb hB hg); clear hb hB hg HS5)
                  | (have hq := HS6; clear hq; (with_reducible refine atStore ?_); refine wpList_store_at rfl 24 _ _ rfl (HS6.out.at_ 3 rfl) (nsV emptyS) rfl rfl (by kernel_rfl) (Nat.le_of_ble_eq_true rfl) (by kernel_rfl) ?_; intro W7 hB hP; have HS7 := Lib.hid (HS6.out.put 3 rfl (new := (nsA emptyS)) hB hP); clear hB hP HS6; obtain ⟨r1a, r1b, r1c⟩ := HS7.out.rules 1 rfl))
                refine (alive_c _ (HTab.out.after HS7.out.below)).mono ?_
                rintro e W8 ⟨rfl, hb⟩
                have HS8 := Lib.hid (HS7.out.after hb)
                clear hb HS7 r1a r1b r1c
                go_wp2_with fail
                go_ret
                exact ⟨rfl, HS8.out.below⟩
              · have q3n : long ≤ 1099511627776 := by omega
                by_cases q4 : lo < 0
                · clear hbad2
                  go_wp2_with (first
                    | (have hq := HS5; clear hq; (with_reducible refine atAlloc ?_); refine wpList_alloc_b rfl (some 12) rfl 24 (#[.int .u64 0, .int .u64 0, .int .u64 0, .int .u64 0]) (by kernel_rfl) ?_; intro g6 W6 hb hB hg; have HS6 := Lib.hid (HS5.out.new hb hB hg); clear hb hB hg HS5)
                    | (have hq := HS6; clear hq; (with_reducible refine atStore ?_); refine wpList_store_at rfl 24 _ _ rfl (HS6.out.at_ 3 rfl) (nsV emptyS) rfl rfl (by kernel_rfl) (Nat.le_of_ble_eq_true rfl) (by kernel_rfl) ?_; intro W7 hB hP; have HS7 := Lib.hid (HS6.out.put 3 rfl (new := (nsA emptyS)) hB hP); clear hB hP HS6; obtain ⟨r1a, r1b, r1c⟩ := HS7.out.rules 1 rfl))
                  refine (alive_c _ (HTab.out.after HS7.out.below)).mono ?_
                  rintro e W8 ⟨rfl, hb⟩
                  have HS8 := Lib.hid (HS7.out.after hb)
                  clear hb HS7 r1a r1b r1c
                  go_wp2_with fail
                  go_ret
                  exact ⟨rfl, HS8.out.below⟩
                · have q4n : 0 ≤ lo := by omega
                  have q5 : 1099511627776 < lo := by omega
                  clear hbad2
                  go_wp2_with (first
                    | (have hq := HS5; clear hq; (with_reducible refine atAlloc ?_); refine wpList_alloc_b rfl (some 12) rfl 24 (#[.int .u64 0, .int .u64 0, .int .u64 0, .int .u64 0]) (by kernel_rfl) ?_; intro g6 W6 hb hB hg; have HS6 := Lib.hid (HS5.out.new hb hB hg); clear hb hB hg HS5)
                    | (have hq := HS6; clear hq; (with_reducible refine atStore ?_); refine wpList_store_at rfl 24 _ _ rfl (HS6.out.at_ 3 rfl) (nsV emptyS) rfl rfl (by kernel_rfl) (Nat.le_of_ble_eq_true rfl) (by kernel_rfl) ?_; intro W7 hB hP; have HS7 := Lib.hid (HS6.out.put 3 rfl (new := (nsA emptyS)) hB hP); clear hB hP HS6; obtain ⟨r1a, r1b, r1c⟩ := HS7.out.rules 1 rfl))
                  refine (alive_c _ (HTab.out.after HS7.out.below)).mono ?_
                  rintro e W8 ⟨rfl, hb⟩
                  have HS8 := Lib.hid (HS7.out.after hb)
                  clear hb HS7 r1a r1b r1c
                  go_wp2_with fail
                  go_ret
                  exact ⟨rfl, HS8.out.below⟩
      · have HNo := Lib.hid hno
        have HNb := Lib.hid hnb
        clear hno hnb
        go_wp2_with (first
          | (have hq := HS5; clear hq; (with_reducible refine atAlloc ?_); refine wpList_alloc_b rfl (some 12) rfl 24 (#[.int .u64 0, .int .u64 0, .int .u64 0, .int .u64 0]) (by kernel_rfl) ?_; intro g6 W6 hb hB hg; have HS6 := Lib.hid (HS5.out.new hb hB hg); clear hb hB hg HS5)
          | (have hq := HS6; clear hq; (with_reducible refine atStore ?_); refine wpList_store_at rfl 24 _ _ rfl (HS6.out.at_ 3 rfl) (nsV F1) rfl rfl (by kernel_rfl) (Nat.le_of_ble_eq_true rfl) (by kernel_rfl) ?_; intro W7 hB hP; have HS7 := Lib.hid (HS6.out.put 3 rfl (new := (nsA F1)) hB hP); clear hB hP HS6))
        have HGI := Lib.hid (show ∃ (i : Nat) (t : TypeId), ([(.blk g1 24 (nsA nodes)), (.blk g2 29 #[.int .i64 qn, .int .i64 long, .int .i64 lo, .int .u64 (wn of 0 : Nat), .int .u64 (wn of 1 : Nat), .int .u64 (wn of 2 : Nat), .int .u64 (wn of 3 : Nat)]), .pf p nodes A2 c2 l, (.blk g6 24 (nsA F1))] : List Own)[i]? = some (.blk g2 t #[.int .i64 qn, .int .i64 long, .int .i64 lo, .int .u64 (wn of 0 : Nat), .int .u64 (wn of 1 : Nat), .int .u64 (wn of 2 : Nat), .int .u64 (wn of 3 : Nat)]) from ⟨1, _, rfl⟩)
        have HB0 := Lib.hid (show Ms w noB [(.blk g1 24 (nsA nodes)), (.blk g2 29 #[.int .i64 qn, .int .i64 long, .int .i64 lo, .int .u64 (wn of 0 : Nat), .int .u64 (wn of 1 : Nat), .int .u64 (wn of 2 : Nat), .int .u64 (wn of 3 : Nat)]), .pf p nodes A2 c2 l, (.blk g6 24 (nsA F1))] _ from HS7.out)
        have HSt := Lib.hid (fun W (h : Ms w noB [(.blk g1 24 (nsA nodes)), (.blk g2 29 #[.int .i64 qn, .int .i64 long, .int .i64 lo, .int .u64 (wn of 0 : Nat), .int .u64 (wn of 1 : Nat), .int .u64 (wn of 2 : Nat), .int .u64 (wn of 3 : Nat)]), .pf p nodes A2 c2 l, (.blk g6 24 (nsA F1))] W ∧ (∀ o, W.cell? ⟨g2, o, none⟩ = (#[.int .i64 qn, .int .i64 long, .int .i64 lo, .int .u64 (wn of 0 : Nat), .int .u64 (wn of 1 : Nat), .int .u64 (wn of 2 : Nat), .int .u64 (wn of 3 : Nat)] : Array Value)[o]?)) => steps_f p nodes _ _ l W HG.out (h.1.ok 2 _ rfl))
        have HL1 := Lib.hid (show l.length ≤ 1048576 by have := HG.out.len; omega)
        have HL2 := Lib.hid ((HG.out.ok (HS7.out.ok 2 _ rfl)).pos)
        go_region_held3 (fun W2 => Ms w noB [(.blk g1 24 (nsA nodes)), (.blk g2 29 #[.int .i64 qn, .int .i64 long, .int .i64 lo, .int .u64 (wn of 0 : Nat), .int .u64 (wn of 1 : Nat), .int .u64 (wn of 2 : Nat), .int .u64 (wn of 3 : Nat)]), .pf p nodes A2 c2 l, (.blk g6 24 (nsA F1))] W2 ∧ (∀ o, W2.cell? ⟨g2, o, none⟩ = (#[.int .i64 qn, .int .i64 long, .int .i64 lo, .int .u64 (wn of 0 : Nat), .int .u64 (wn of 1 : Nat), .int .u64 (wn of 2 : Nat), .int .u64 (wn of 3 : Nat)] : Array Value)[o]?))
          (first | exact keepFin hMM HGI.out | exact keepAl ‹_› HGI.out _ | exact keepSt ‹_› HGI.out hM | exact keepDr HS7.out HGI.out)
          (first
            | (rw [if_pos (by rfl)]; refine wp_append _ _ _ rfl _ _ rfl rfl _ hr ?_)
            | ((with_reducible refine (HSt.out _ ‹_›).mono ?_); rintro e w5 ⟨Ast, cst, rfl, hM⟩; (first | refine Exists.elim (way1d (lo := lo) HB0.out hM HL1.out HL2.out (by simp)) ?_ | refine Exists.elim (way2 (lo := lo) ‹_› hM HL1.out HL2.out (by simp)) ?_); rintro A7 ⟨c7, W7, hr, hMM⟩))
        all_goals
          have HS8 := Lib.hid hMM
          clear hMM
          obtain ⟨q0, q1, q2, q3, q4, q5⟩ : 0 ≤ qn ∧ qn ≤ 256 ∧ 1 ≤ long ∧ long ≤ 1099511627776 ∧ 0 ≤ lo ∧ lo ≤ 1099511627776 := by have hnb := HNb.out; unfold badAsk at hnb; omega
          have hlI : (l.length : Int) ≤ 4096 := by have := HG.out.len; omega
          go_wp2_with fail
          go_loopw [133] (fun k wr => ∃ kk : Nat, kk ≤ l.length + 1 ∧ k = .int .i64 (kk : Nat) ∧ Hid (Ms w noB [(.blk g1 24 (nsA nodes)), (.blk g2 29 #[.int .i64 qn, .int .i64 long, .int .i64 lo, .int .u64 (wn of 0 : Nat), .int .u64 (wn of 1 : Nat), .int .u64 (wn of 2 : Nat), .int .u64 (wn of 3 : Nat)]), .pf p nodes A2 c2 l, (.blk g6 24 (nsA F1)), rowI A7 (l.length + 1) c7 (lo :: l.map Sp.at_)] wr)) (fun k _ => l.length + 1 - (intOf k).toNat)
          case atStart => exact ⟨0, by omega, rfl, HS8⟩
          case round =>
            obtain ⟨k, hkl, rfl, HS9⟩ := hrel
            by_cases hltk : k < l.length + 1
            · have hltI : (k : Int) < (l.length : Int) + 1 := by omega
              obtain ⟨ad, hA1, hc⟩ := (ReadsI.of_row (HS9.out.own 4 rfl) (by simp)).at_ (Below.refl _ _) hltk
              obtain ⟨t, ht⟩ : ∃ t, t = (lo :: l.map Sp.at_).getD k 0 := ⟨_, rfl⟩
              have hmem : t ∈ lo :: l.map Sp.at_ := by rw [ht, List.getD_eq_getElem?_getD, List.getElem?_eq_getElem (by simp; omega)]; exact List.getElem_mem _
              have htb : 0 ≤ t ∧ t < 2199023255552 := by
                rcases List.mem_cons.1 hmem with h9 | h9
                · omega
                · exact step_times HG.out t h9
              obtain ⟨tb0, tb1⟩ := htb
              rw [← ht] at hc
              clear ht hmem
              subst hA1
              by_cases hc1 : t < lo
              · obtain ⟨r1a, r1b, r1c⟩ := HS9.out.rules 1 rfl
                go_wp2_with fail
                refine ⟨⟨k + 1, by omega, by go_num, ?_⟩, by simp [intOf]; omega⟩
                exact HS9
              · have ge1 : lo ≤ t := by omega
                clear hc1
                by_cases hc3 : 2199023255552 - long < t
                · obtain ⟨r1a, r1b, r1c⟩ := HS9.out.rules 1 rfl
                  go_wp2_with fail
                  refine ⟨⟨k + 1, by omega, by go_num, ?_⟩, by simp [intOf]; omega⟩
                  exact HS9
                · have ge3 : t ≤ 2199023255552 - long := by omega
                  clear hc3
                  have HSP2 := Lib.hid (show spanE 0 t (t + long) = 0 by unfold spanE; rw [if_neg (by omega)])
                  have HDU2 := Lib.hid (show durN nodes l 0 t (t + long) = durS nodes l t (t + long) by unfold durN; rw [HSP2.out, if_pos rfl])
                  have hnw := no_will (nodes := nodes) (l := l) (n := qn) (long := long) (t := t) (of := of) (HNo.out t ge1) (by omega)
                  obtain ⟨D2, hD2⟩ : ∃ D2, D2 = durS nodes l t (t + long) := ⟨_, rfl⟩
                  rw [← hD2] at HDU2 hnw
                  clear hD2
                  obtain ⟨cn, hcn2⟩ : ∃ cn : Nat, cn = cnt (D2 &&& of) := ⟨_, rfl⟩
                  have HCC := Lib.hid hcn2
                  rw [← hcn2] at hnw
                  clear hcn2
                  obtain ⟨r1a, r1b, r1c⟩ := HS9.out.rules 1 rfl
                  go_wp2_with fail
                  refine (during_f p nodes _ _ l t (t + long) _ HG.out (HS9.out.ok 2 _ rfl)).mono ?_
                  rintro e W10 ⟨rfl, hb⟩
                  have HS10 := Lib.hid (HS9.out.after hb)
                  clear hb HS9 r1a r1b r1c
                  rw [HDU2.out, HSP2.out]
                  clear hc
                  have HCT := Lib.hid (fun W => HCC.out ▸ count_c (D2 &&& of) W)
                  go_wp2_with (first
                    | (have hq := HS10; clear hq; (with_reducible refine atAlloc ?_); refine wpList_alloc_b rfl (some 18) rfl 24 (#[.int .u64 0, .int .u64 0, .int .u64 0, .int .u64 0]) (by kernel_rfl) ?_; intro g11 W11 hb hB hg; have HS11 := Lib.hid (HS10.out.new hb hB hg); clear hb hB hg HS10)
                    | (have hq := HS11; clear hq; (with_reducible refine atStore ?_); refine wpList_store_at rfl 24 _ _ rfl (HS11.out.at_ 5 rfl) (nsV D2) rfl rfl (by kernel_rfl) (Nat.le_of_ble_eq_true rfl) (by kernel_rfl) ?_; intro W12 hB hP; have HS12 := Lib.hid (HS11.out.put 5 rfl (new := (nsA D2)) hB hP); clear hB hP HS11))
                  refine region_b (Ms w noB _) (by kernel_rfl) (by kernel_rfl) HS12.out ?_
                  clear HS12
                  intro W13 hS
                  have q1 := hS.on 1 rfl
                  have HC0 := Lib.hid (fun (d : Nat) (os : Array Obj) => and_c D2 of (grow (redrawn W13 d) os))
                  have HC1 := Lib.hid (fun (d : Nat) (os : Array Obj) => HCT.out (grow (redrawn W13 d) os))
                  have HS13 := Lib.hid hS
                  clear hS
                  repeat (first | go_big_quiet_skip | (refine wpQuiet_load_b (by kernel_rfl) 24 _ rfl (HS13.out.at_ 5 rfl) 4 (nsV D2) rfl _ Tryd.underlying24 rfl (by kernel_rfl) (Nat.le_of_ble_eq_true rfl) rfl ?_) | (refine wpQuiet_load_b (by kernel_rfl) 24 _ rfl (HS13.out.at_ 1 rfl) 4 (.agg #[.int .u64 (wn of 0 : Nat), .int .u64 (wn of 1 : Nat), .int .u64 (wn of 2 : Nat), .int .u64 (wn of 3 : Nat)]) rfl _ Tryd.underlying24 rfl (by kernel_rfl) (Nat.le_of_ble_eq_true rfl) rfl ?_) | go_big_quiet_step (first | with_reducible exact Calls.regrown_of (HC0.out _ _) | with_reducible exact Calls.regrown_of (HC1.out _ _)) | quiet_step (first | with_reducible exact Calls.regrown_of (HC0.out _ _) | with_reducible exact Calls.regrown_of (HC1.out _ _)))
                  refine wpQuiet_nil ?_
                  intro W14 hb
                  have HS14 := Lib.hid (HS13.out.after hb)
                  clear hb HS13 q1 HC0 HC1
                  go_wp2_with fail
                  refine ⟨⟨k + 1, by omega, by go_num, ?_⟩, by simp [intOf]; omega⟩
                  exact Lib.hid (Ms.cut (l := [(.blk g1 24 (nsA nodes)), (.blk g2 29 #[.int .i64 qn, .int .i64 long, .int .i64 lo, .int .u64 (wn of 0 : Nat), .int .u64 (wn of 1 : Nat), .int .u64 (wn of 2 : Nat), .int .u64 (wn of 3 : Nat)]), .pf p nodes A2 c2 l, (.blk g6 24 (nsA F1)), rowI (some ad) (l.length + 1) c7 (lo :: l.map Sp.at_)]) (k := [(.blk g11 24 (nsA D2))]) HS14.out)
            · obtain rfl : k = l.length + 1 := by omega
              go_wp2_with fail
              refine (alive_c _ (HTab.out.after HS9.out.below)).mono ?_
              rintro e W10 ⟨rfl, hb⟩
              have HS10 := Lib.hid (HS9.out.after hb)
              clear hb HS9
              go_wp2_with fail
              go_ret
              exact ⟨rfl, HS10.out.below⟩
      · have HE := Lib.hid hE
        have HNb := Lib.hid hnb
        obtain ⟨q0, q1, q2, q3, q4, q5⟩ : 0 ≤ qn ∧ qn ≤ 256 ∧ 1 ≤ long ∧ long ≤ 1099511627776 ∧ 0 ≤ lo ∧ lo ≤ 1099511627776 := by unfold badAsk at hnb; omega
        have e1 : lo ≤ t1 := hE.ge
        have e1b : decide (t1 < lo) = false := decide_eq_false (by omega)
        have e2 : t1 + long ≤ 2199023255552 := hE.will.1
        have HSP := Lib.hid (show spanE 0 t1 (t1 + long) = 0 by unfold spanE; rw [if_neg (by omega)])
        have HDU := Lib.hid (show durN nodes l 0 t1 (t1 + long) = durS nodes l t1 (t1 + long) by unfold durN; rw [HSP.out, if_pos rfl])
        have hok := (will_iff (nodes := nodes) (l := l) (n := qn) (long := long) (t := t1) (of := of) e2 q0).1 hE.will
        obtain ⟨D, hD⟩ : ∃ D, D = durS nodes l t1 (t1 + long) := ⟨_, rfl⟩
        rw [← hD] at HDU hok hF
        have hfs := notS_first hok
        rw [← hF] at hfs
        have HCN := Lib.hid hfs.2
        have hcn := hfs.2
        have HEQ := Lib.hid (fun w9 => show (Op.equalIn 10000 24 (nsV (notS F1 (D &&& of))) (nsV emptyS)).run Tryd.prog w9 = .ok true w9 by rw [eqNs_run, hfs.1]; simp)
        clear hnb hE hok hD hF hfs
        go_wp2_with (first
          | (have hq := HS5; clear hq; (with_reducible refine atAlloc ?_); refine wpList_alloc_b rfl (some 12) rfl 24 (#[.int .u64 0, .int .u64 0, .int .u64 0, .int .u64 0]) (by kernel_rfl) ?_; intro g6 W6 hb hB hg; have HS6 := Lib.hid (HS5.out.new hb hB hg); clear hb hB hg HS5)
          | (have hq := HS6; clear hq; (with_reducible refine atStore ?_); refine wpList_store_at rfl 24 _ _ rfl (HS6.out.at_ 3 rfl) (nsV F1) rfl rfl (by kernel_rfl) (Nat.le_of_ble_eq_true rfl) (by kernel_rfl) ?_; intro W7 hB hP; have HS7 := Lib.hid (HS6.out.put 3 rfl (new := (nsA F1)) hB hP); clear hB hP HS6; obtain ⟨r1a, r1b, r1c⟩ := HS7.out.rules 1 rfl))
        refine (during_f p nodes _ _ l t1 (t1 + long) _ HG.out (HS7.out.ok 2 _ rfl)).mono ?_
        rintro e W8 ⟨rfl, hb⟩
        have HS8 := Lib.hid (HS7.out.after hb)
        clear hb HS7 r1a r1b r1c
        rw [HDU.out, HSP.out]
        go_wp2_with (first
          | (have hq := HS8; clear hq; (with_reducible refine atAlloc ?_); refine wpList_alloc_b rfl (some 14) rfl 24 (#[.int .u64 0, .int .u64 0, .int .u64 0, .int .u64 0]) (by kernel_rfl) ?_; intro g9 W9 hb hB hg; have HS9 := Lib.hid (HS8.out.new hb hB hg); clear hb hB hg HS8)
          | (have hq := HS9; clear hq; (with_reducible refine atStore ?_); refine wpList_store_at rfl 24 _ _ rfl (HS9.out.at_ 4 rfl) (nsV D) rfl rfl (by kernel_rfl) (Nat.le_of_ble_eq_true rfl) (by kernel_rfl) ?_; intro W10 hB hP; have HS10 := Lib.hid (HS9.out.put 4 rfl (new := (nsA D)) hB hP); clear hB hP HS9))
        refine region_b (Ms w noB _) (by kernel_rfl) (by kernel_rfl) HS10.out ?_
        clear HS10
        intro W11 hS
        have q1 := hS.on 1 rfl
        have HC0 := Lib.hid (fun (d : Nat) (os : Array Obj) => count_c F1 (grow (redrawn W11 d) os))
        have HC1 := Lib.hid (fun (d : Nat) (os : Array Obj) => and_c D of (grow (redrawn W11 d) os))
        have HC2 := Lib.hid (fun (d : Nat) (os : Array Obj) => not_c F1 (D &&& of) (grow (redrawn W11 d) os))
        have HS11 := Lib.hid hS
        clear hS
        repeat (first | go_big_quiet_skip | (refine wpQuiet_neq (by kernel_rfl) 24 _ _ _ rfl rfl rfl (by kernel_rfl) true (fun w9 => HEQ.out w9) ?_) | (refine wpQuiet_load_b (by kernel_rfl) 24 _ rfl (HS11.out.at_ 3 rfl) 4 (nsV F1) rfl _ Tryd.underlying24 rfl (by kernel_rfl) (Nat.le_of_ble_eq_true rfl) rfl ?_) | (refine wpQuiet_load_b (by kernel_rfl) 24 _ rfl (HS11.out.at_ 3 rfl) 4 (nsV F1) rfl _ Tryd.underlying24 rfl (by kernel_rfl) (Nat.le_of_ble_eq_true rfl) rfl ?_) | (refine wpQuiet_load_b (by kernel_rfl) 24 _ rfl (HS11.out.at_ 4 rfl) 4 (nsV D) rfl _ Tryd.underlying24 rfl (by kernel_rfl) (Nat.le_of_ble_eq_true rfl) rfl ?_) | (refine wpQuiet_load_b (by kernel_rfl) 24 _ rfl (HS11.out.at_ 1 rfl) 4 (.agg #[.int .u64 (wn of 0 : Nat), .int .u64 (wn of 1 : Nat), .int .u64 (wn of 2 : Nat), .int .u64 (wn of 3 : Nat)]) rfl _ Tryd.underlying24 rfl (by kernel_rfl) (Nat.le_of_ble_eq_true rfl) rfl ?_) | go_big_quiet_step (first | with_reducible exact Calls.regrown_of (HC0.out _ _) | with_reducible exact Calls.regrown_of (HC1.out _ _) | with_reducible exact Calls.regrown_of (HC2.out _ _)) | quiet_step (first | with_reducible exact Calls.regrown_of (HC0.out _ _) | with_reducible exact Calls.regrown_of (HC1.out _ _) | with_reducible exact Calls.regrown_of (HC2.out _ _)))
        refine wpQuiet_nil ?_
        intro W12 hb
        have HS12 := Lib.hid (HS11.out.after hb)
        clear hb HS11 q1 HC0 HC1 HC2
        go_wp2_with fail
        have HGI := Lib.hid (show ∃ (i : Nat) (t : TypeId), ([(.blk g1 24 (nsA nodes)), (.blk g2 29 #[.int .i64 qn, .int .i64 long, .int .i64 lo, .int .u64 (wn of 0 : Nat), .int .u64 (wn of 1 : Nat), .int .u64 (wn of 2 : Nat), .int .u64 (wn of 3 : Nat)]), .pf p nodes A2 c2 l, (.blk g6 24 (nsA F1)), (.blk g9 24 (nsA D))] : List Own)[i]? = some (.blk g2 t #[.int .i64 qn, .int .i64 long, .int .i64 lo, .int .u64 (wn of 0 : Nat), .int .u64 (wn of 1 : Nat), .int .u64 (wn of 2 : Nat), .int .u64 (wn of 3 : Nat)]) from ⟨1, _, rfl⟩)
        have HB0 := Lib.hid (show Ms w noB [(.blk g1 24 (nsA nodes)), (.blk g2 29 #[.int .i64 qn, .int .i64 long, .int .i64 lo, .int .u64 (wn of 0 : Nat), .int .u64 (wn of 1 : Nat), .int .u64 (wn of 2 : Nat), .int .u64 (wn of 3 : Nat)]), .pf p nodes A2 c2 l, (.blk g6 24 (nsA F1)), (.blk g9 24 (nsA D))] _ from HS12.out)
        have HSt := Lib.hid (fun W (h : Ms w noB [(.blk g1 24 (nsA nodes)), (.blk g2 29 #[.int .i64 qn, .int .i64 long, .int .i64 lo, .int .u64 (wn of 0 : Nat), .int .u64 (wn of 1 : Nat), .int .u64 (wn of 2 : Nat), .int .u64 (wn of 3 : Nat)]), .pf p nodes A2 c2 l, (.blk g6 24 (nsA F1)), (.blk g9 24 (nsA D))] W ∧ (∀ o, W.cell? ⟨g2, o, none⟩ = (#[.int .i64 qn, .int .i64 long, .int .i64 lo, .int .u64 (wn of 0 : Nat), .int .u64 (wn of 1 : Nat), .int .u64 (wn of 2 : Nat), .int .u64 (wn of 3 : Nat)] : Array Value)[o]?)) => steps_f p nodes _ _ l W HG.out (h.1.ok 2 _ rfl))
        have HL1 := Lib.hid (show l.length ≤ 1048576 by have := HG.out.len; omega)
        have HL2 := Lib.hid ((HG.out.ok (HS12.out.ok 2 _ rfl)).pos)
        go_region_held3 (fun W2 => Ms w noB [(.blk g1 24 (nsA nodes)), (.blk g2 29 #[.int .i64 qn, .int .i64 long, .int .i64 lo, .int .u64 (wn of 0 : Nat), .int .u64 (wn of 1 : Nat), .int .u64 (wn of 2 : Nat), .int .u64 (wn of 3 : Nat)]), .pf p nodes A2 c2 l, (.blk g6 24 (nsA F1)), (.blk g9 24 (nsA D))] W2 ∧ (∀ o, W2.cell? ⟨g2, o, none⟩ = (#[.int .i64 qn, .int .i64 long, .int .i64 lo, .int .u64 (wn of 0 : Nat), .int .u64 (wn of 1 : Nat), .int .u64 (wn of 2 : Nat), .int .u64 (wn of 3 : Nat)] : Array Value)[o]?))
          (first | exact keepFin hMM HGI.out | exact keepAl ‹_› HGI.out _ | exact keepSt ‹_› HGI.out hM | exact keepDr HS12.out HGI.out)
          (first
            | (rw [if_pos (by rfl)]; refine wp_append _ _ _ rfl _ _ rfl rfl _ hr ?_)
            | ((with_reducible refine (HSt.out _ ‹_›).mono ?_); rintro e w5 ⟨Ast, cst, rfl, hM⟩; (first | refine Exists.elim (way1d (lo := lo) HB0.out hM HL1.out HL2.out (by simp)) ?_ | refine Exists.elim (way2 (lo := lo) ‹_› hM HL1.out HL2.out (by simp)) ?_); rintro A7 ⟨c7, W7, hr, hMM⟩))
        all_goals
          have HS13 := Lib.hid hMM
          clear hMM
          have hlI : (l.length : Int) ≤ 4096 := by have := HG.out.len; omega
          go_wp2_with fail
          go_loopw [133] (fun k wr => ∃ kk : Nat, kk ≤ l.length + 1 ∧ k = .int .i64 (kk : Nat) ∧ Hid (Ms w noB [(.blk g1 24 (nsA nodes)), (.blk g2 29 #[.int .i64 qn, .int .i64 long, .int .i64 lo, .int .u64 (wn of 0 : Nat), .int .u64 (wn of 1 : Nat), .int .u64 (wn of 2 : Nat), .int .u64 (wn of 3 : Nat)]), .pf p nodes A2 c2 l, (.blk g6 24 (nsA F1)), (.blk g9 24 (nsA D)), rowI A7 (l.length + 1) c7 (lo :: l.map Sp.at_)] wr)) (fun k _ => l.length + 1 - (intOf k).toNat)
          case atStart => exact ⟨0, by omega, rfl, HS13⟩
          case round =>
            obtain ⟨k, hkl, rfl, HS14⟩ := hrel
            by_cases hltk : k < l.length + 1
            · have hltI : (k : Int) < (l.length : Int) + 1 := by omega
              obtain ⟨ad, hA1, hc⟩ := (ReadsI.of_row (HS14.out.own 5 rfl) (by simp)).at_ (Below.refl _ _) hltk
              obtain ⟨t, ht⟩ : ∃ t, t = (lo :: l.map Sp.at_).getD k 0 := ⟨_, rfl⟩
              have hmem : t ∈ lo :: l.map Sp.at_ := by rw [ht, List.getD_eq_getElem?_getD, List.getElem?_eq_getElem (by simp; omega)]; exact List.getElem_mem _
              have htb : 0 ≤ t ∧ t < 2199023255552 := by
                rcases List.mem_cons.1 hmem with h9 | h9
                · omega
                · exact step_times HG.out t h9
              obtain ⟨tb0, tb1⟩ := htb
              rw [← ht] at hc
              clear ht hmem
              subst hA1
              by_cases hc1 : t < lo
              · obtain ⟨r1a, r1b, r1c⟩ := HS14.out.rules 1 rfl
                go_wp2_with fail
                refine ⟨⟨k + 1, by omega, by go_num, ?_⟩, by simp [intOf]; omega⟩
                exact HS14
              · have ge1 : lo ≤ t := by omega
                clear hc1
                by_cases hc2 : t1 ≤ t
                · obtain ⟨r1a, r1b, r1c⟩ := HS14.out.rules 1 rfl
                  go_wp2_with fail
                  refine ⟨⟨k + 1, by omega, by go_num, ?_⟩, by simp [intOf]; omega⟩
                  exact HS14
                · have lt2 : t < t1 := by omega
                  clear hc2
                  have ge3 : t ≤ 2199023255552 - long := by omega
                  have HSP2 := Lib.hid (show spanE 0 t (t + long) = 0 by unfold spanE; rw [if_neg (by omega)])
                  have HDU2 := Lib.hid (show durN nodes l 0 t (t + long) = durS nodes l t (t + long) by unfold durN; rw [HSP2.out, if_pos rfl])
                  have hnw := no_will (nodes := nodes) (l := l) (n := qn) (long := long) (t := t) (of := of) (HE.out.least t ge1 lt2) (by omega)
                  obtain ⟨D2, hD2⟩ : ∃ D2, D2 = durS nodes l t (t + long) := ⟨_, rfl⟩
                  rw [← hD2] at HDU2 hnw
                  clear hD2
                  obtain ⟨cn, hcn2⟩ : ∃ cn : Nat, cn = cnt (D2 &&& of) := ⟨_, rfl⟩
                  have HCC := Lib.hid hcn2
                  rw [← hcn2] at hnw
                  clear hcn2
                  obtain ⟨r1a, r1b, r1c⟩ := HS14.out.rules 1 rfl
                  go_wp2_with fail
                  refine (during_f p nodes _ _ l t (t + long) _ HG.out (HS14.out.ok 2 _ rfl)).mono ?_
                  rintro e W15 ⟨rfl, hb⟩
                  have HS15 := Lib.hid (HS14.out.after hb)
                  clear hb HS14 r1a r1b r1c
                  rw [HDU2.out, HSP2.out]
                  clear hc
                  have HCT := Lib.hid (fun W => HCC.out ▸ count_c (D2 &&& of) W)
                  go_wp2_with (first
                    | (have hq := HS15; clear hq; (with_reducible refine atAlloc ?_); refine wpList_alloc_b rfl (some 18) rfl 24 (#[.int .u64 0, .int .u64 0, .int .u64 0, .int .u64 0]) (by kernel_rfl) ?_; intro g16 W16 hb hB hg; have HS16 := Lib.hid (HS15.out.new hb hB hg); clear hb hB hg HS15)
                    | (have hq := HS16; clear hq; (with_reducible refine atStore ?_); refine wpList_store_at rfl 24 _ _ rfl (HS16.out.at_ 6 rfl) (nsV D2) rfl rfl (by kernel_rfl) (Nat.le_of_ble_eq_true rfl) (by kernel_rfl) ?_; intro W17 hB hP; have HS17 := Lib.hid (HS16.out.put 6 rfl (new := (nsA D2)) hB hP); clear hB hP HS16))
                  refine region_b (Ms w noB _) (by kernel_rfl) (by kernel_rfl) HS17.out ?_
                  clear HS17
                  intro W18 hS
                  have q1 := hS.on 1 rfl
                  have HC0 := Lib.hid (fun (d : Nat) (os : Array Obj) => and_c D2 of (grow (redrawn W18 d) os))
                  have HC1 := Lib.hid (fun (d : Nat) (os : Array Obj) => HCT.out (grow (redrawn W18 d) os))
                  have HS18 := Lib.hid hS
                  clear hS
                  repeat (first | go_big_quiet_skip | (refine wpQuiet_load_b (by kernel_rfl) 24 _ rfl (HS18.out.at_ 6 rfl) 4 (nsV D2) rfl _ Tryd.underlying24 rfl (by kernel_rfl) (Nat.le_of_ble_eq_true rfl) rfl ?_) | (refine wpQuiet_load_b (by kernel_rfl) 24 _ rfl (HS18.out.at_ 1 rfl) 4 (.agg #[.int .u64 (wn of 0 : Nat), .int .u64 (wn of 1 : Nat), .int .u64 (wn of 2 : Nat), .int .u64 (wn of 3 : Nat)]) rfl _ Tryd.underlying24 rfl (by kernel_rfl) (Nat.le_of_ble_eq_true rfl) rfl ?_) | go_big_quiet_step (first | with_reducible exact Calls.regrown_of (HC0.out _ _) | with_reducible exact Calls.regrown_of (HC1.out _ _)) | quiet_step (first | with_reducible exact Calls.regrown_of (HC0.out _ _) | with_reducible exact Calls.regrown_of (HC1.out _ _)))
                  refine wpQuiet_nil ?_
                  intro W19 hb
                  have HS19 := Lib.hid (HS18.out.after hb)
                  clear hb HS18 q1 HC0 HC1
                  go_wp2_with fail
                  refine ⟨⟨k + 1, by omega, by go_num, ?_⟩, by simp [intOf]; omega⟩
                  exact Lib.hid (Ms.cut (l := [(.blk g1 24 (nsA nodes)), (.blk g2 29 #[.int .i64 qn, .int .i64 long, .int .i64 lo, .int .u64 (wn of 0 : Nat), .int .u64 (wn of 1 : Nat), .int .u64 (wn of 2 : Nat), .int .u64 (wn of 3 : Nat)]), .pf p nodes A2 c2 l, (.blk g6 24 (nsA F1)), (.blk g9 24 (nsA D)), rowI (some ad) (l.length + 1) c7 (lo :: l.map Sp.at_)]) (k := [(.blk g16 24 (nsA D2))]) HS19.out)
            · obtain rfl : k = l.length + 1 := by omega
              go_wp2_with fail
              refine (alive_c _ (HTab.out.after HS14.out.below)).mono ?_
              rintro e W15 ⟨rfl, hb⟩
              have HS15 := Lib.hid (HS14.out.after hb)
              clear hb HS14
              go_wp2_with fail
              go_ret
              exact ⟨rfl, HS15.out.below⟩
end Go.Proofs.YtkgdcicaokekfaaDoor
