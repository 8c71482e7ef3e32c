/- Prof: Free. -/
import Derived.Test.YtkgdcicaokekfaaDoorF6
set_option linter.unusedVariables false
namespace Go.Proofs.YtkgdcicaokekfaaDoor
open Go.RowKit Go.Sort

theorem PfOk.addr {w : World} {g : Nat} {nodes : NS} {A : Option Addr} {c : Nat} {l : List (Sp NS)} {t0 : Int} (h : PfOk w g nodes A c l t0) (ad : Addr) (hA : A = some ad) (hp : 0 < l.length) : ad.spot = none := by
  obtain ⟨b, cap, e, _⟩ := World.ownsRow.form (h.ok.2.1 : w.ownsRow 0 60 5 (slP A c l) l.length (spC l)) hp
  injection e with e1
  rw [hA] at e1
  injection e1 with e1
  rw [e1]
theorem find_i (g : Nat) (nodes : NS) (A : Option Addr) (c : Nat) (l : List (Sp NS)) (t0 t : Int) (i : Nat) (w : World) (h : PfOk w g nodes A c l t0) (ht : t0 ≤ t ∧ t ≤ 2199023255552) (hi : At emptyS l t i) :
    Calls Tryd.prog 24 #[.pointer (some ⟨g, 0, none⟩), .int .i64 t] w fun e w' => e = .returned (.int .i64 (i : Nat)) ∧ Below w.heap.size w w' :=
  (find_c g nodes A c l t0 t w h ht).mono fun _ _ ⟨⟨j, hj, he⟩, hb⟩ => ⟨by rw [he, hj.uniq h.prf.can hi], hb⟩
abbrev nsL (s : NS) : List Value := [.int .u64 (wn s 0 : Nat), .int .u64 (wn s 1 : Nat), .int .u64 (wn s 2 : Nat), .int .u64 (wn s 3 : Nat)]
theorem ReadsP.at_ {w : World} {ad : Addr} {n : Nat} {l : List (Sp NS)} (h : ReadsP w (some ad) n l) {i : Nat} (hi : i < n) : ∀ j v, (spL (stp emptyS l i))[j]? = some v → w.cell? ((ad.add (i * 5)).add j) = some v := by
  obtain ⟨ad', e, hc⟩ := h.2.2 (by omega)
  cases e
  exact hc i hi
theorem add_add (a : Addr) (h : a.spot = none) (i j : Nat) : (a.add i).add j = a.add (i + j) := by
  cases a; simp only at h; subst h; rw [add_at, add_at, add_at, Nat.add_assoc]
theorem ReadsP.free {w : World} {ad : Addr} {n : Nat} {l : List (Sp NS)} (h : ReadsP w (some ad) n l) (hp : ad.spot = none) {i : Nat} (hi : i < n) : ∀ j v, (nsL (stp emptyS l i).free)[j]? = some v → w.cell? (((ad.add (i * 5)).add 1).add j) = some v := fun j v hj => by
  have h1 := h.at_ hi (j + 1) v hj
  rw [← h1]
  obtain ⟨g, k, e⟩ : ∃ g k, ad = ⟨g, k, none⟩ := by cases ad; simp only at hp; subst hp; exact ⟨_, _, rfl⟩
  rw [e, add_at, add_at, add_at, add_at]
  congr 2
  omega
set_option maxRecDepth 100000 in
set_option maxHeartbeats 4000000 in
theorem free_yes (g : Nat) (nodes : NS) (A : Option Addr) (c : Nat) (l : List (Sp NS)) (t0 t : Int) (w : World) (h : PfOk w g nodes A c l t0) (h0 : t0 ≤ t) (h1 : t < 2199023255552) :
    Calls Tryd.prog 20 #[.pointer (some ⟨g, 0, none⟩), .int .i64 t] w fun e w' => e = .returned (.tuple #[nsV (frA emptyS l t), .int .i64 0]) ∧ Below w.heap.size w w' := by
  have HH := Lib.hid h
  have hp : 0 < l.length := h.pos
  have hpI : (0 : Int) < (l.length : Int) := by omega
  have hlI : (l.length : Int) ≤ 1048576 := by have := h.len; omega
  have h0' : ¬ t < t0 := by omega
  have h1' : ¬ 2199023255552 ≤ t := by omega
  obtain ⟨ad, hAe, hcx⟩ := h.read.2.2 hp
  have hap : ad.spot = none := h.addr ad hAe hp
  have HAP := Lib.hid hap
  have HT := Lib.hid (show t0 ≤ t ∧ t ≤ 2199023255552 from ⟨h0, by omega⟩)
  have hc0 := hcx 0 hp 0 (.int .i64 (stp emptyS l 0).at_) rfl
  rw [h.first] at hc0
  have HC := Lib.hid hc0
  obtain ⟨i, hi⟩ := At.ex (d := emptyS) h.prf h0
  have HI := Lib.hid hi
  have HE := Lib.hid (hi.is_ h.prf.can)
  have hil := hi.lt
  have hiI : (i : Int) < (l.length : Int) := by omega
  clear hcx hc0 h hi hap
  subst hAe
  go_enter Tryd.func20, Tryd.ntmps20
  have HS0 := Lib.hid (Ms.nil w noB)
  go_wp2_with (refine wpList_alloc_b rfl (some 4) rfl 24 #[.int .u64 0, .int .u64 0, .int .u64 0, .int .u64 0] (by kernel_rfl) ?_; intro g1 W0 hb hB hg; have HS1 := Lib.hid (HS0.out.new hb hB hg); clear hb hB hg HS0)
  refine (ok_c g nodes (some ad) c l t0 _ (HH.out.after HS1.out.below)).mono ?_
  rintro e W1 ⟨rfl, hb1⟩
  have HS2 := Lib.hid (HS1.out.after hb1)
  have hb := HS2.out.below
  clear hb1 HS1
  obtain ⟨r1, r2, r3⟩ := (HH.out.after hb).blk.rules
  have hcell : W1.cell? ad = some (.int .i64 t0) := by
    have e : (ad.add (0 * 5)).add 0 = ad := by cases ad; simp [Addr.add]
    rw [← e]; exact (hb.cell (block_lt_of_cell HC.out)).trans HC.out
  clear hb
  go_wp2_with fail
  clear hcell r1 r2 r3 HC
  refine region_bt 10 (Ms w noB _) (by kernel_rfl) (by kernel_rfl) HS2.out ?_
  clear HS2
  intro W4 hS
  have HH4 := Lib.hid (HH.out.after hS.below)
  have HR4 := Lib.hid (ReadsP.free HH4.out.read HAP.out hil)
  have q0 := cells_on HH4.out.blk.cell HH4.out.blk.lt
  have HF := Lib.hid (fun d os => find_i g nodes (some ad) c l t0 t i _ (HH4.out.after (below_regrown W4 d os)) HT.out HI.out)
  have HS4 := Lib.hid hS
  clear hS
  simp only [List.take_succ_cons, List.take_zero, List.drop_succ_cons, List.drop_zero]
  repeat (first
    | (refine wpQuiet_load_ad (by kernel_rfl) 24 _ rfl ((ad.add (i * 5)).add 1) (nsL (stp emptyS l i).free) (by simp) HR4.out rfl _ (nsV (stp emptyS l i).free) rfl Tryd.underlying24 rfl (by kernel_rfl) ?_)
    | go_big_quiet_step (with_reducible exact Calls.regrown_of (HF.out _ _)) | quiet_step (with_reducible exact Calls.regrown_of (HF.out _ _)))
  refine wpQuiet_nil ?_
  intro W5 hb
  have HS5 := Lib.hid (HS4.out.after hb)
  clear hb HS4 q0 HR4 HF HH4
  go_wp2_with (refine wpList_store_at rfl 24 _ _ rfl (HS5.out.at_ 0 rfl) (nsV (stp emptyS l i).free) rfl rfl (by kernel_rfl) (Nat.le_of_ble_eq_true rfl) (by kernel_rfl) ?_; intro W6 hB hP; have HS6 := Lib.hid (HS5.out.put 0 rfl (new := nsA (stp emptyS l i).free) hB hP); clear hB hP HS5)
  exact post_cell_tmp (x := .int .i64 0) rfl rfl rfl (HS6.out.at_ 0 rfl) Tryd.underlying24 rfl (by kernel_rfl) rfl ⟨by rw [HE.out], HS6.out.below⟩
set_option maxRecDepth 100000 in
set_option maxHeartbeats 4000000 in
theorem free_no (g : Nat) (nodes : NS) (A : Option Addr) (c : Nat) (l : List (Sp NS)) (t0 t : Int) (w : World) (h : PfOk w g nodes A c l t0) (h0 : t < t0 ∨ 2199023255552 ≤ t) :
    Calls Tryd.prog 20 #[.pointer (some ⟨g, 0, none⟩), .int .i64 t] w fun e w' => e = .returned (.tuple #[nsV emptyS, .int .i64 1]) ∧ Below w.heap.size w w' := by
  have HH := Lib.hid h
  have hp : 0 < l.length := h.pos
  have hpI : (0 : Int) < (l.length : Int) := by omega
  have hlI : (l.length : Int) ≤ 1048576 := by have := h.len; omega
  obtain ⟨ad, hAe, hcx⟩ := h.read.2.2 hp
  have hc0 := hcx 0 hp 0 (.int .i64 (stp emptyS l 0).at_) rfl
  rw [h.first] at hc0
  have HC := Lib.hid hc0
  clear hcx hc0 h
  subst hAe
  go_enter Tryd.func20, Tryd.ntmps20
  have HS0 := Lib.hid (Ms.nil w noB)
  go_wp2_with (refine wpList_alloc_b rfl (some 4) rfl 24 #[.int .u64 0, .int .u64 0, .int .u64 0, .int .u64 0] (by kernel_rfl) ?_; intro g1 W0 hb hB hg; have HS1 := Lib.hid (HS0.out.new hb hB hg); clear hb hB hg HS0)
  refine (ok_c g nodes (some ad) c l t0 _ (HH.out.after HS1.out.below)).mono ?_
  rintro e W1 ⟨rfl, hb1⟩
  have HS2 := Lib.hid (HS1.out.after hb1)
  have hb := HS2.out.below
  clear hb1 HS1
  obtain ⟨r1, r2, r3⟩ := (HH.out.after hb).blk.rules
  have hcell : W1.cell? ad = some (.int .i64 t0) := by
    have e : (ad.add (0 * 5)).add 0 = ad := by cases ad; simp [Addr.add]
    rw [← e]; exact (hb.cell (block_lt_of_cell HC.out)).trans HC.out
  clear hb
  have HQ := Lib.hid (show nsV emptyS = .agg #[.int .u64 0, .int .u64 0, .int .u64 0, .int .u64 0] by rfl)
  by_cases h1 : t < t0
  · go_wp2_with (refine wpList_store_at rfl 24 _ _ rfl (HS2.out.at_ 0 rfl) (.agg #[.int .u64 0, .int .u64 0, .int .u64 0, .int .u64 0]) rfl rfl (by kernel_rfl) (Nat.le_of_ble_eq_true rfl) (by kernel_rfl) ?_; intro W6 hB hP; have HS6 := Lib.hid (HS2.out.put 0 rfl (new := #[.int .u64 0, .int .u64 0, .int .u64 0, .int .u64 0]) hB hP); clear hB hP HS2)
    exact post_cell_tmp (x := .int .i64 1) rfl rfl rfl (HS6.out.at_ 0 rfl) Tryd.underlying24 rfl (by kernel_rfl) rfl ⟨by rw [HQ.out], HS6.out.below⟩
  · have h1' : t0 ≤ t := by omega
    have h2 : 2199023255552 ≤ t := by omega
    go_wp2_with (refine wpList_store_at rfl 24 _ _ rfl (HS2.out.at_ 0 rfl) (.agg #[.int .u64 0, .int .u64 0, .int .u64 0, .int .u64 0]) rfl rfl (by kernel_rfl) (Nat.le_of_ble_eq_true rfl) (by kernel_rfl) ?_; intro W6 hB hP; have HS6 := Lib.hid (HS2.out.put 0 rfl (new := #[.int .u64 0, .int .u64 0, .int .u64 0, .int .u64 0]) hB hP); clear hB hP HS2)
    exact post_cell_tmp (x := .int .i64 1) rfl rfl rfl (HS6.out.at_ 0 rfl) Tryd.underlying24 rfl (by kernel_rfl) rfl ⟨by rw [HQ.out], HS6.out.below⟩
/-- What is free at a time, and whether it may be asked. -/
def freeN (l : List (Sp NS)) (t0 t : Int) : NS := if t < t0 ∨ 2199023255552 ≤ t then emptyS else frA emptyS l t
def freeE (t0 t : Int) : Int := if t < t0 ∨ 2199023255552 ≤ t then 1 else 0
theorem free_c (g : Nat) (nodes : NS) (A : Option Addr) (c : Nat) (l : List (Sp NS)) (t0 t : Int) (w : World) (h : PfOk w g nodes A c l t0) :
    Calls Tryd.prog 20 #[.pointer (some ⟨g, 0, none⟩), .int .i64 t] w fun e w' => e = .returned (.tuple #[nsV (freeN l t0 t), .int .i64 (freeE t0 t)]) ∧ Below w.heap.size w w' := by
  unfold freeN freeE
  by_cases h0 : t < t0 ∨ 2199023255552 ≤ t
  · rw [if_pos h0, if_pos h0]; exact free_no g nodes A c l t0 t w h h0
  · rw [if_neg h0, if_neg h0]; exact free_yes g nodes A c l t0 t w h (by omega) (by omega)
end Go.Proofs.YtkgdcicaokekfaaDoor
