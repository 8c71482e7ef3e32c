/- Prof: Steps, Copy. -/
import Derived.Test.YtkgdcicaokekfaaDoorFf
import Derived.Deep.RegionHeld3
set_option linter.unusedVariables false
namespace Go.Proofs.YtkgdcicaokekfaaDoor
open Go.RowKit Go.Sort

theorem spC_one_cell (l : List (Sp NS)) : ∀ u ∈ spC l, u.oneCell' = true := by
  intro u hu
  simp only [spC, List.mem_flatMap, spL, List.mem_cons, List.not_mem_nil, or_false] at hu
  obtain ⟨s, _, rfl | rfl | rfl | rfl | rfl⟩ := hu <;> rfl
theorem ReadsP.cells {w : World} {ad : Addr} {l : List (Sp NS)} (h : ReadsP w (some ad) l.length l) (hp : ad.spot = none) (hl : 0 < l.length) : ∀ j u, (spC l)[j]? = some u → w.cell? (ad.add j) = some u := by
  intro j u hu
  have hj : j < (spC l).length := by
    rcases Nat.lt_or_ge j (spC l).length with h1 | h1
    · exact h1
    · rw [List.getElem?_eq_none h1] at hu; cases hu
  rw [spC_len] at hj
  have e : j = j / 5 * 5 + j % 5 := by omega
  have h2 := h.at_ (i := j / 5) (by omega) (j % 5) u (by rw [← spC_get l (j / 5) (j % 5) (by omega) (Nat.mod_lt _ (by decide)), ← e]; exact hu)
  obtain ⟨b, k, e2⟩ : ∃ b k, ad = ⟨b, k, none⟩ := by cases ad; simp only at hp; subst hp; exact ⟨_, _, rfl⟩
  rw [e2, add_at, add_at] at h2
  rw [← h2, e2, add_at]
  congr 2
  omega
set_option maxRecDepth 100000 in
set_option maxHeartbeats 8000000 in
theorem clone_pc (ad : Addr) (c : Nat) (l : List (Sp NS)) (w : World) (h : ReadsP w (some ad) l.length l) (hp : ad.spot = none) (hl : 0 < l.length) (hm : l.length ≤ 1048576) :
    Calls Tryd.prog 32 #[slP (some ad) c l] w fun e w' => ∃ A' c', e = .returned (slP A' c' l) ∧ Ms w noB [rowP A' c' l] w' := by
  have HR := Lib.hid h
  have HP := Lib.hid hp
  have HL := Lib.hid hl
  have HM := Lib.hid hm
  have HS0 := Lib.hid (Ms.nil w noB)
  have heq : ∀ w, (binOp .eql 54 (slP (some ad) c l) (.slice none 0 0)).run Tryd.prog w = .ok (.bool false) w := fun w => by kernel_rfl
  clear h hp hl hm
  go_enter Tryd.func32, Tryd.ntmps32
  go_wp2_with (first
    | (have hq := HS0; clear hq; refine wpList_build_b rfl (some 5) rfl 60 0 #[] (by kernel_rfl) ?_; intro g2 W2 hb hB hg; have HS1 := Lib.hid (HS0.out.newRow (n := 0) (size := 5) hb hB hg rfl (by decide)); clear hb hB hg HS0)
    | (have hq := HS1; clear hq; refine append_at HS1.out 0 rfl _ _ 54 60 5 40 (.agg z5P) rfl Tryd.underlying54 info_step rfl (by decide) (.slice (some ⟨g2, 0, none⟩) 0 0) 0 l.length c [] (spC l) ad rfl rfl rfl ((HR.out.below HS1.out.below).cells HP.out HL.out) (spC_len l) (spC_one_cell l) (by have := HM.out; omega) (by have := HM.out; simp only [maxLen]; omega) l.length (spC l) (by omega) rfl ?_; intro A' c' W4 hM; have HS4 := Lib.hid hM; clear hM HS1))
  go_ret
  exact ⟨A', c', rfl, HS4.out⟩
set_option maxRecDepth 100000 in
set_option maxHeartbeats 8000000 in
theorem steps_c (g : Nat) (nodes : NS) (A : Option Addr) (c : Nat) (l : List (Sp NS)) (t0 : Int) (w : World) (h : PfOk w g nodes A c l t0) :
    Calls Tryd.prog 17 #[.pointer (some ⟨g, 0, none⟩)] w fun e w' => ∃ A' c', e = .returned (.slice A' l.length c') ∧ Ms w noB [.row 3 1 (.slice A' l.length c') l.length (nums (l.map Sp.at_))] w' := by
  have HH := Lib.hid h
  obtain ⟨ad, hAe, -⟩ := h.read.2.2 h.pos
  subst hAe
  have hlI : (l.length : Int) ≤ 1048576 := by have := h.len; omega
  have HLn := Lib.hid h.len
  have HS0 := Lib.hid ((Ms.nil w noB).nilRowOf 3 1)
  clear h
  go_enter Tryd.func17, Tryd.ntmps17
  go_wp2_with fail
  refine (ok_c g nodes (some ad) c l t0 _ HH.out).mono ?_
  rintro e W1 ⟨rfl, hb⟩
  have HS1 := Lib.hid (HS0.out.after hb)
  clear hb HS0
  obtain ⟨r1, r2, r3⟩ := (HH.out.after HS1.out.below).blk.rules
  go_wp2_with fail
  clear r1 r2 r3
  go_loopw [3, 14] (fun v k wr => ∃ (kk : Nat) (A2 : Option Addr) (c2 : Nat), kk ≤ l.length ∧ k = .int .i64 (kk : Nat) ∧ v = .slice A2 kk c2 ∧ Hid (Ms w noB [.row 3 1 (.slice A2 kk c2) kk (nums ((l.take kk).map Sp.at_))] wr)) (fun v k _ => l.length - (intOf k).toNat)
  case atStart => exact ⟨0, none, 0, by omega, rfl, rfl, HS1⟩
  case round =>
    obtain ⟨k, A2, c2, hkl, rfl, rfl, HS2⟩ := hrel
    by_cases hlt : k < l.length
    · have hltI : (k : Int) < (l.length : Int) := by omega
      have HC := Lib.hid ((HH.out.after HS2.out.below).read.at_ hlt)
      obtain ⟨x, hx⟩ : ∃ x, x = stp emptyS l k := ⟨_, rfl⟩
      have HT := Lib.hid (show nums ((l.take k).map Sp.at_) ++ [.int .i64 x.at_] = nums ((l.take (k + 1)).map Sp.at_) by
        rw [List.take_succ_eq_append_getElem hlt, List.map_append, nums_append]
        congr 1
        rw [hx]
        simp [nums, stp, List.getD_eq_getElem?_getD, hlt])
      rw [← hx] at HC
      clear hx
      go_wp2_with (first
        | (have hq := HC; clear hq; refine wpList_load_ad (by kernel_rfl) 60 _ rfl (ad.add (k * 5)) (spL x) HC.out rfl _ (spV x) rfl Tryd.underlying60 rfl (by kernel_rfl) ?_; clear HC)
        | (have hq := HS2; clear hq; (with_reducible refine atAlloc ?_); refine wpList_alloc_b rfl (some 5) rfl 60 z5P (by kernel_rfl) ?_; intro g3 W9 hb hB hg; have HS3 := Lib.hid (HS2.out.new hb hB hg); clear hb hB hg HS2)
        | (have hq := HS3; clear hq; (with_reducible refine atStore ?_); refine wpList_store_at rfl 60 _ _ rfl (HS3.out.at_ 1 rfl) (spV x) rfl rfl (by kernel_rfl) (Nat.le_of_ble_eq_true rfl) (by kernel_rfl) ?_; intro W10 hB hP; have HS4 := Lib.hid (HS3.out.put 1 rfl (new := spA x) hB hP); clear hB hP HS3; obtain ⟨s1, s2, s3⟩ := HS4.out.rules 1 rfl)
        | (have hq := HS4; clear hq; refine wpList_build_b rfl (some 21) rfl 3 1 #[.int .i64 x.at_] (by kernel_rfl) ?_; intro g4 W11 hb hB hg; have HS5 := Lib.hid (HS4.out.new hb hB hg); clear hb hB hg HS4 s1 s2 s3)
        | (have hq := HS5; clear hq; refine append_row HS5.out 0 2 rfl _ _ 46 3 1 8 (.int .i64 0) rfl Tryd.underlying46 (by kernel_rfl) rfl (by decide) (.slice A2 k c2) k 1 (nums ((l.take k).map Sp.at_)) [.int .i64 x.at_] g4 _ _ rfl rfl rfl rfl rfl rfl rfl (by have := HLn.out; omega) (by have := HLn.out; simp only [maxLen]; omega) (k + 1) (nums ((l.take (k + 1)).map Sp.at_)) rfl HT.out ?_; intro A' c' W7 hM; have HS7 := Lib.hid hM; clear hM HS5))
      refine ⟨⟨k + 1, A', c', by omega, by go_num, rfl, ?_⟩, by simp [intOf]; omega⟩
      exact Lib.hid (Ms.cut (l := [.row 3 1 (.slice A' (k + 1) c') (k + 1) _]) (k := [.blk g3 60 _, .blk g4 3 _]) HS7.out)
    · obtain rfl : k = l.length := by omega
      go_wp2_with fail
      go_ret
      exact ⟨A2, c2, rfl, by have h1 := HS2.out; rw [List.take_length] at h1; exact h1⟩
section
variable {w W W' : World} {g : Nat} {nodes : NS} {ad : Addr} {c : Nat} {l : List (Sp NS)} {t0 : Int}
theorem keepCopy {o : Own} (hh : PfOk W g nodes (some ad) c l t0 ∧ Below w.heap.size w W ∧ (∀ o, W.cell? ⟨g, o, none⟩ = (pfA nodes (some ad) c l)[o]?)) (hM : Ms W noB [o] W') : PfOk W' g nodes (some ad) c l t0 ∧ Below w.heap.size w W' ∧ (∀ o, W'.cell? ⟨g, o, none⟩ = (pfA nodes (some ad) c l)[o]?) :=
  ⟨hh.1.after hM.below, below_then hh.2.1 hh.2.1.size hM.below, (hh.1.after hM.below).blk.cell⟩
theorem keepAlloc (hh : PfOk W g nodes (some ad) c l t0 ∧ Below w.heap.size w W ∧ (∀ o, W.cell? ⟨g, o, none⟩ = (pfA nodes (some ad) c l)[o]?)) (x : Obj) : PfOk (W.alloc x) g nodes (some ad) c l t0 ∧ Below w.heap.size w (W.alloc x) ∧ (∀ o, (W.alloc x).cell? ⟨g, o, none⟩ = (pfA nodes (some ad) c l)[o]?) :=
  have hb : Below W.heap.size W (W.alloc x) := (Below.refl _ _).alloc (Nat.le_refl _) x
  ⟨hh.1.after hb, below_then hh.2.1 hh.2.1.size hb, (hh.1.after hb).blk.cell⟩
theorem startCopy {W1 : World} (h : PfOk w g nodes (some ad) c l t0) (hS : Ms w noB [] W1) : PfOk W1.drew g nodes (some ad) c l t0 ∧ Below w.heap.size w W1.drew ∧ (∀ o, W1.drew.cell? ⟨g, o, none⟩ = (pfA nodes (some ad) c l)[o]?) :=
  have h1 : PfOk W1.drew g nodes (some ad) c l t0 := h.after hS.below.drew
  ⟨h1, hS.below.drew, h1.blk.cell⟩
end
set_option maxRecDepth 100000 in
set_option maxHeartbeats 8000000 in
theorem copy_c (g : Nat) (nodes : NS) (A : Option Addr) (c : Nat) (l : List (Sp NS)) (t0 : Int) (w : World) (h : PfOk w g nodes A c l t0) :
    Calls Tryd.prog 18 #[.pointer (some ⟨g, 0, none⟩)] w fun e w' => ∃ k, e = .returned (.pointer (some ⟨k, 0, none⟩)) ∧ NewP w nodes l k w' := by
  have HH := Lib.hid h
  obtain ⟨ad, hAe, -⟩ := h.read.2.2 h.pos
  subst hAe
  have HP := Lib.hid (h.addr ad rfl h.pos)
  have HS0 := Lib.hid (Ms.nil w noB)
  clear h
  go_enter Tryd.func18, Tryd.ntmps18
  go_wp2_with fail
  refine (ok_c g nodes (some ad) c l t0 _ HH.out).mono ?_
  rintro e W1 ⟨rfl, hb⟩
  have HS1 := Lib.hid (HS0.out.after hb)
  clear hb HS0
  go_wp2_with fail
  have HCl := Lib.hid (fun W (h : PfOk W g nodes (some ad) c l t0 ∧ Below w.heap.size w W ∧ (∀ o, W.cell? ⟨g, o, none⟩ = (pfA nodes (some ad) c l)[o]?)) => clone_pc ad c l W h.1.read (h.1.addr ad rfl h.1.pos) h.1.pos h.1.len)
  go_region_held3 (fun W2 => PfOk W2 g nodes (some ad) c l t0 ∧ Below w.heap.size w W2 ∧ (∀ o, W2.cell? ⟨g, o, none⟩ = (pfA nodes (some ad) c l)[o]?))
    (first | exact keepAlloc ‹_› _ | exact keepCopy ‹_› hM | exact startCopy HH.out HS1.out)
    (first
      | ((with_reducible refine (HCl.out _ ‹_›).mono ?_); rintro e w5 ⟨A2, c2, rfl, hM⟩))
  all_goals
    have HS2 := ((HS1.out.after ((Below.refl _ _).drew)).made hM).new (g := w5.heap.size) ((Below.refl _ _).alloc (Nat.le_refl _) (Obj.cells (pfA nodes A2 c2 l) 56)) (Blk.new _ _ _) (Nat.le_refl _)
    have HS3 := Lib.hid (HS2.pfOf 1 0 rfl rfl (by decide))
    clear HS2 hM
    go_wp2
    go_ret
    exact ⟨w5.heap.size, rfl, A2, c2, HS3.out⟩
end Go.Proofs.YtkgdcicaokekfaaDoor
