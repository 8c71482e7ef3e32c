/- Back: keep. -/
import Derived.Test.YtkgphbjneaagoaaDoorGe
import Derived.Deep.RegionLaw
set_option linter.unusedVariables false
set_option maxRecDepth 100000
namespace Go.Proofs.YtkgphbjneaagoaaDoor
open Go.RowKit Go.Sort

theorem wp_append {P : Program} {o : Oper} {a : Act} {K : Act → World → Prop} {Q : Exit → Act → World → Prop} {W0 W5 : World} (s x : Operand) (t : TypeId) (ho : o.op = .call { callee := .builtin .append, args := #[s, x], argTypes := #[t, t] }) (v1 v2 : Value) (hs : a.eval s = v1) (hx : a.eval x = v2)
    (v : Value) (hr : (Builtin.append_ #[t, t] o.type #[v1, v2]).run P W0 = .ok v W5) (hK : K (a.put o.dst v) W5) : o.wp P a W0 K Q := by
  unfold Oper.wp execOp
  simp only [ho, resolve, invoke, builtin, Sem.run_bind, Sem.run_pure, Result.andThen_ok, List.map_toArray, List.map_cons, List.map_nil, hs, hx, hr]
  exact hK
theorem put_one (w : World) (g i : Nat) (a : Value) : Put w (w.setCell ⟨g, i, none⟩ a) g :=
  ⟨rfl, rfl, rfl, by simp [World.setCell], fun j hj => Below.heap_setCell _ ⟨g, i, none⟩ a j hj⟩
/-- append(s, x) in a region that draws: the block of x is new. -/
theorem app_pl {w W0 : World} {ex : Nat → Prop} {L : List Own} (h : Ms w ex L W0) (i : Nat) {A : Option Addr} {c : Nat} {l : List Pl} (x : Pl) (hi : L[i]? = some (rowPl A c l)) (hl : l.length ≤ 1024) :
    ∃ A' c' W', (Builtin.append_ #[31, 31] 31 #[.slice A l.length c, .slice (some ⟨W0.heap.size, 0, none⟩) 1 1]).run Tryd.prog ((W0.alloc (.cells (plA x) 47)).drew) = .ok (.slice A' (l ++ [x]).length c') W' ∧ Ms w ex (L.set i (rowPl A' c' (l ++ [x]))) W' := by
  have hI : (Tryd.prog.info? 47).map (fun i => (i.zero, i.size, i.bytes)) = some (some (.agg #[.int .i64 0, .int .i64 0, .int .u64 0, .int .u64 0, .int .u64 0, .int .u64 0]), 6, 48) := by kernel_rfl
  obtain ⟨i0, hi0, hzz⟩ := Option.map_eq_some_iff.1 hI
  simp only [Prod.mk.injEq] at hzz
  obtain ⟨hz0, hz1, hz2⟩ := hzz
  have hb : Below W0.heap.size W0 ((W0.alloc (.cells (plA x) 47)).drew) := ((Below.refl _ _).alloc (Nat.le_refl _) _).drew
  have hB : Blk ((W0.alloc (.cells (plA x) 47)).drew) W0.heap.size 47 (plA x) := Blk.new _ _ _
  have h1 := h.new hb hB (Nat.le_refl _)
  have hi1 : (L ++ [Own.blk W0.heap.size 47 (plA x)])[i]? = some (rowPl A c l) := by
    rw [List.getElem?_append_left (List.getElem?_eq_some_iff.1 hi).1]; exact hi
  obtain ⟨v', w', hr, h2, h3, _, h5⟩ := run_append_own_at (P := Tryd.prog) ((W0.alloc (.cells (plA x) 47)).drew) 0 31 31 47 i0 (.agg #[.int .i64 0, .int .i64 0, .int .u64 0, .int .u64 0, .int .u64 0, .int .u64 0]) 6 48 Tryd.underlying31 hi0 hz0 hz1 hz2 rfl (by decide) _ l.length _ (h1.own i hi1) ⟨W0.heap.size, 0, none⟩ 1 1 (plL x)
    rfl (fun k u hu => by rw [add_plain, hB.cell, ← hu]; exact (List.getElem?_toArray : (plL x).toArray[k]? = (plL x)[k]?)) (fun u hu => (List.all_eq_true.1 (show (plL x).all (·.oneCell') = true from rfl)) u hu) (by simp only [maxLen]; omega) (by omega) (Nat.zero_le _)
  obtain ⟨A', c', rfl⟩ := row_slice h2
  have e1 : l.flatMap plL ++ plL x = (l ++ [x]).flatMap plL := flat_snoc l x
  rw [e1] at h2
  have e2 : l.length + 1 = (l ++ [x]).length := by simp
  rw [e2] at h2 hr h5
  refine ⟨A', c', w', hr, ?_⟩
  have h4 := h1.grown i (v' := .slice A' (l ++ [x]).length c') (n' := (l ++ [x]).length) hi1 h2 h3 (by
    rcases h5 with h5 | h5
    · exact .inl h5
    · exact .inr (.inl h5))
  rw [List.set_append_left _ _ (List.getElem?_eq_some_iff.1 hi).1] at h4
  exact h4.cut
set_option maxHeartbeats 32000000 in
theorem keep_w (q g : Nat) (now : Int) (up : NS) (A : Option Addr) (c : Nat) (l : List (Sp NS)) (As : Option Addr) (cs : Nat) (S : List Pl) (Ap : Option Addr) (cp : Nat) (T : List Pl) (x : Pl) (y : Wi) (w : World)
    (h : (Own.all (psO q g now up A c l As cs S Ap cp T)).ok w) (hG : Goo now l) (h0 : 0 ≤ x.at_) (h1 : x.at_ ≤ 2199023255552) (h2 : 1 ≤ y.long) (h3 : y.long ≤ 1099511627776) (hS : S.length ≤ 1024) (hT : T.length ≤ 1024) :
    Calls Tryd.prog 28 #[.pointer (some ⟨q, 0, none⟩), plV x, wiV y] w fun e w' => e = .returned (.tuple #[]) ∧ ∃ A' c' As' cs' Ap' cp', Ms w (Own.all (psO q g now up A c l As cs S Ap cp T)).bl [.all (psO q g now up A' c' (takeL up l now x.at_ (x.at_ + y.long) x.nodes) As' cs' (if x.at_ = now then S ++ [x] else S) Ap' cp' (if x.at_ = now then T else T ++ [x]))] w' := by
  have HG := Lib.hid hG
  have HL := Lib.hid (And.intro hS hT)
  have HM := Lib.hid h
  clear h hG hS hT
  go_enter Tryd.func28, Tryd.ntmps28
  have HS0 := Lib.hid (Ms.open_ HM.out)
  go_wp2_with (first
    | (have hq := HS0; clear hq; (with_reducible refine atBox ?_); refine wpList_alloc_b rfl (some 4) rfl 47 ((plA x)) (by kernel_rfl) ?_; intro g1 W1 hb hB hg; have HS1 := Lib.hid (HS0.out.new hb hB hg); clear hb hB hg HS0)
    | (have hq := HS1; clear hq; (with_reducible refine atBox ?_); refine wpList_alloc_b rfl (some 5) rfl 68 ((wiA y)) (by kernel_rfl) ?_; intro g2 W2 hb hB hg; have HS2 := Lib.hid (HS1.out.new hb hB hg); clear hb hB hg HS1))
  refine region_bt 13 (Ms w (Own.all (psO q g now up A c l As cs S Ap cp T)).bl _) (by kernel_rfl) (by kernel_rfl) HS2.out ?_
  clear HS2
  intro W3 hS
  have q0 := hS.on 0 rfl
  have q4 := hS.on 4 rfl
  have q5 := hS.on 5 rfl
  have HS3 := Lib.hid hS
  clear hS
  simp only [List.take_succ_cons, List.take_zero, List.drop_succ_cons, List.drop_zero]
  repeat (first | go_big_quiet_skip | (refine wpQuiet_load_b (by kernel_rfl) 24 _ rfl (HS3.out.at_ 4 rfl) 4 (.agg #[.int .u64 (wn x.nodes 0 : Nat), .int .u64 (wn x.nodes 1 : Nat), .int .u64 (wn x.nodes 2 : Nat), .int .u64 (wn x.nodes 3 : Nat)]) rfl _ Tryd.underlying24 rfl (by kernel_rfl) (Nat.le_of_ble_eq_true rfl) rfl ?_) | go_big_quiet_step (fail) | quiet_step (fail))
  refine wpQuiet_nil ?_
  intro W4 hb
  have HS4 := Lib.hid (HS3.out.after hb)
  clear hb HS3 q0 q4 q5
  go_wp2_with fail
  refine (take_b g up A c l now x.at_ (x.at_ + y.long) x.nodes _ HG.out (HS4.out.ok 1 _ rfl)).mono ?_
  rintro e W5 ⟨v, rfl, A5, c5, hM⟩
  have HS5 := Lib.hid (HS4.out.call 1 rfl hM)
  clear hM HS4
  by_cases h5 : x.at_ = now
  · go_wp2_with fail
    refine region_b (Ms w (Own.all (psO q g now up A c l As cs S Ap cp T)).bl _) (by kernel_rfl) (by kernel_rfl) HS5.out ?_
    clear HS5
    intro W6 hS
    have q4 := hS.on 4 rfl
    have q0 := hS.on 0 rfl
    have HS6 := Lib.hid hS
    clear hS
    repeat (first | go_big_quiet_skip | go_big_quiet_step (fail) | quiet_step (fail))
    refine wpQuiet_nil ?_
    intro W7 hb
    have HS7 := Lib.hid (HS6.out.after hb)
    clear hb HS6 q4 q0
    go_wp2_with fail
    have H5 := Lib.hid h5
    clear h5
    refine Exists.elim (app_pl HS7.out 2 x rfl HL.out.1) ?_
    rintro A8 ⟨c8, W8, hr, hMM⟩
    obtain ⟨n1, n2, n3⟩ := (hMM.at_ 0 rfl).rules
    obtain ⟨m1, m2, m3⟩ := (HS7.out.at_ 0 rfl).rules
    obtain ⟨k1, k2, k3⟩ := (HS7.out.at_ 4 rfl).rules
    have HF : Ms w (Own.all (psO q g now up A c l As cs S Ap cp T)).bl [.all (psO q g now up A5 c5 (takeL up l now x.at_ (x.at_ + y.long) x.nodes) A8 c8 (S ++ [x]) Ap cp T)] (W8.setCell ⟨q, 2, none⟩ (.slice A8 (S.length + 1) c8)) := by
      rw [show S.length + 1 = (S ++ [x]).length by simp]
      exact ((hMM.put 0 rfl (new := (psA g now A8 c8 (S ++ [x]) Ap cp T)) ((hMM.at_ 0 rfl).set_ 2 _) (put_one W8 q 2 _)).sel4 0 1 2 3 rfl rfl rfl rfl (by decide)).all
    have HFN := Lib.hid HF
    clear HF
    go_region_law (first | (rw [if_pos (by rfl)]; refine wp_append _ _ _ rfl _ _ rfl rfl _ hr ?_))
    all_goals (try simp only [Exit.inBlock, Exit.then])
    all_goals refine bodyPost_end (results_none rfl _ _ _) rfl ?_
    all_goals exact ⟨rfl, _, _, _, _, _, _, by rw [if_pos H5.out, if_pos H5.out]; exact HFN.out⟩
  · go_wp2_with fail
    refine region_b (Ms w (Own.all (psO q g now up A c l As cs S Ap cp T)).bl _) (by kernel_rfl) (by kernel_rfl) HS5.out ?_
    clear HS5
    intro W6 hS
    have q4 := hS.on 4 rfl
    have q0 := hS.on 0 rfl
    have HS6 := Lib.hid hS
    clear hS
    repeat (first | go_big_quiet_skip | go_big_quiet_step (fail) | quiet_step (fail))
    refine wpQuiet_nil ?_
    intro W7 hb
    have HS7 := Lib.hid (HS6.out.after hb)
    clear hb HS6 q4 q0
    go_wp2_with fail
    have H5 := Lib.hid h5
    clear h5
    refine Exists.elim (app_pl HS7.out 3 x rfl HL.out.2) ?_
    rintro A8 ⟨c8, W8, hr, hMM⟩
    obtain ⟨n1, n2, n3⟩ := (hMM.at_ 0 rfl).rules
    obtain ⟨m1, m2, m3⟩ := (HS7.out.at_ 0 rfl).rules
    obtain ⟨k1, k2, k3⟩ := (HS7.out.at_ 4 rfl).rules
    have HF : Ms w (Own.all (psO q g now up A c l As cs S Ap cp T)).bl [.all (psO q g now up A5 c5 (takeL up l now x.at_ (x.at_ + y.long) x.nodes) As cs S A8 c8 (T ++ [x]))] (W8.setCell ⟨q, 3, none⟩ (.slice A8 (T.length + 1) c8)) := by
      rw [show T.length + 1 = (T ++ [x]).length by simp]
      exact ((hMM.put 0 rfl (new := (psA g now As cs S A8 c8 (T ++ [x]))) ((hMM.at_ 0 rfl).set_ 3 _) (put_one W8 q 3 _)).sel4 0 1 2 3 rfl rfl rfl rfl (by decide)).all
    have HFN := Lib.hid HF
    clear HF
    go_region_law (first | (rw [if_pos (by rfl)]; refine wp_append _ _ _ rfl _ _ rfl rfl _ hr ?_))
    all_goals (try simp only [Exit.inBlock, Exit.then])
    all_goals refine bodyPost_end (results_none rfl _ _ _) rfl ?_
    all_goals exact ⟨rfl, _, _, _, _, _, _, by rw [if_neg H5.out, if_neg H5.out]; exact HFN.out⟩
end Go.Proofs.YtkgphbjneaagoaaDoor
