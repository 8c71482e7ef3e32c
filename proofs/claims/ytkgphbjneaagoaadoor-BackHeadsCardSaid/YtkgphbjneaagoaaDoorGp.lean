/- Back: Head. -/
import Derived.Test.YtkgphbjneaagoaaDoorGl
set_option linter.unusedVariables false
set_option maxRecDepth 100000
namespace Go.Proofs.YtkgphbjneaagoaaDoor
open Go.RowKit Go.Sort

abbrev z6P : Array Value := #[.int .i64 0, .int .i64 0, .int .u64 0, .int .u64 0, .int .u64 0, .int .u64 0]
theorem Own.keepB {o : Own} {W W' : World} (h : o.ok W) (hb : Below W.heap.size W W') : o.ok W' := o.keep W W' (fun k hk => hb.block k (o.lt W h k hk)) h
theorem alloc_b (W : World) (o : Obj) : Below W.heap.size W ((W.alloc o).drew) := ((Below.refl _ _).alloc (Nat.le_refl _) o).drew
theorem Blk.newd (W : World) (t : TypeId) (cs : Array Value) : Blk ((W.alloc (.cells cs t)).drew) W.heap.size t cs := Blk.new W.drew t cs
theorem Put.trans' {w w1 w2 : World} {g : Nat} (h : Put w w1 g) (k : Put w1 w2 g) : Put w w2 g := ⟨k.os.trans h.os, k.tape.trans h.tape, k.output.trans h.output, k.size.trans h.size, fun j hj => (k.block j hj).trans (h.block j hj)⟩
theorem Blk.six {w : World} {g : Nat} {t : TypeId} {z0 z1 z2 z3 z4 z5 : Value} (h : Blk w g t #[z0, z1, z2, z3, z4, z5]) (a b c d e f : Value) :
    Blk ((((((w.setCell ⟨g, 0, none⟩ a).setCell ⟨g, 1, none⟩ b).setCell ⟨g, 2, none⟩ c).setCell ⟨g, 3, none⟩ d).setCell ⟨g, 4, none⟩ e).setCell ⟨g, 5, none⟩ f) g t #[a, b, c, d, e, f] := by
  have h0 : Blk _ g t #[a, z1, z2, z3, z4, z5] := h.set_ 0 a
  have h1 : Blk _ g t #[a, b, z2, z3, z4, z5] := h0.set_ 1 b
  have h2 : Blk _ g t #[a, b, c, z3, z4, z5] := h1.set_ 2 c
  have h3 : Blk _ g t #[a, b, c, d, z4, z5] := h2.set_ 3 d
  have h4 : Blk _ g t #[a, b, c, d, e, z5] := h3.set_ 4 e
  exact h4.set_ 5 f
theorem put_six (w : World) (g : Nat) (a b c d e f : Value) : Put w ((((((w.setCell ⟨g, 0, none⟩ a).setCell ⟨g, 1, none⟩ b).setCell ⟨g, 2, none⟩ c).setCell ⟨g, 3, none⟩ d).setCell ⟨g, 4, none⟩ e).setCell ⟨g, 5, none⟩ f) g :=
  (put_four w g a b c d).trans' ((put_one _ g 4 e).trans' (put_one _ g 5 f))
theorem NWb {V X : World} (hb : Below (V.alloc (.cells #[.int .i64 0, .int .i64 0, .int .u64 0, .int .u64 0, .int .u64 0, .int .u64 0] 47)).heap.size (V.alloc (.cells #[.int .i64 0, .int .i64 0, .int .u64 0, .int .u64 0, .int .u64 0, .int .u64 0] 47)) X) : Blk X V.heap.size 47 z6P := Blk.after (Blk.new V 47 z6P) hb
theorem NWd {V X : World} (hb : Below ((V.alloc (.cells #[.int .i64 0, .int .i64 0, .int .u64 0, .int .u64 0, .int .u64 0, .int .u64 0] 47)).drew).heap.size ((V.alloc (.cells #[.int .i64 0, .int .i64 0, .int .u64 0, .int .u64 0, .int .u64 0, .int .u64 0] 47)).drew) X) : Blk X V.heap.size 47 z6P := Blk.after (Blk.newd V 47 z6P) hb
theorem below_six {B : Nat} {w0 w : World} (h : Below B w0 w) {g : Nat} (hg : B ≤ g) (a b c d e f : Value) : Below B w0 ((((((w.setCell ⟨g, 0, none⟩ a).setCell ⟨g, 1, none⟩ b).setCell ⟨g, 2, none⟩ c).setCell ⟨g, 3, none⟩ d).setCell ⟨g, 4, none⟩ e).setCell ⟨g, 5, none⟩ f) :=
  (((((h.setCell hg a).setCell hg b).setCell hg c).setCell hg d).setCell hg e).setCell hg f
/-- plan of a pass that has just begun. -/
theorem plan_b (q g : Nat) (now : Int) (up : NS) (A : Option Addr) (c : Nat) (rs : List Ru) (x : Wi) (y : Pl) (b : Bool) (w : World)
    (h : (Own.all (psO q g now up A c (busyL now up rs) none 0 [] none 0 [])).ok w) (hG : Goo now (busyL now up rs)) (hT : TabW w) (hx : WiOk x) (h1 : now ≤ 1099511627776) (hy : (planO up (busyL now up rs) now x).getD ⟨0, 0, emptyS⟩ = y) (hb : (planO up (busyL now up rs) now x).isSome = b) :
    Calls Tryd.prog 27 #[.pointer (some ⟨q, 0, none⟩), wiV x] w fun e w' => e = .returned (.tuple #[plV y, .bool b]) ∧ Below w.heap.size w w' := by
  have := plan_c q g now up A c (busyL now up rs) none 0 [] none 0 [] x w h hG hT hx h1
  rw [hy, hb] at this
  exact this
theorem post_cell_tmp2 {P : Program} {fn : Func} {R : Ending → World → Prop} {a : Act} {w : World} {p g u q : Nat} {ty t : TypeId} {cs : Array Value} {d : TypeDesc} {x y : Value} (h : fn.results = #[.cell p ty, .tmp u, .tmp q])
    (hp : a.tmps.getD p undef = .pointer (some ⟨g, 0, none⟩)) (hu' : a.tmps.getD u undef = x) (hq' : a.tmps.getD q undef = y) (hB : Blk w g t cs) (hu : P.underlying ty = some d) (hd : (match d with | .struct _ | .array _ _ => true | _ => false) = true)
    (hi : (P.info? ty).map (·.size) = some cs.size) (hdf : a.defers = []) (hR : R (.returned (.tuple #[.agg cs, x, y])) w) : bodyPost P fn R .ret a w := by
  have hp' : a.tmps[p]?.getD undef = .pointer (some ⟨g, 0, none⟩) := by simpa using hp
  have hx' : a.tmps[u]?.getD undef = x := by simpa using hu'
  have hy' : a.tmps[q]?.getD undef = y := by simpa using hq'
  exact bodyPost_ret (v := .tuple #[.agg cs, x, y]) (by simp [results, h, hp', hx', hy', asAddr, run_loadVar_row w g t ty cs (0, 0) d hB hu hd hi]) hdf hR
set_option maxHeartbeats 8000000 in
theorem head_no (now : Int) (up : NS) (A : Option Addr) (n c : Nat) (rs : List Ru) (B : Option Addr) (m d : Nat) (ws : List Wi) (w : World) (hA : RdR w A n rs) (hB : RdW w B m ws) (hb : ∀ x ∈ ws, -9223372036854775808 ≤ x.id ∧ x.id ≤ 9223372036854775807) (hR : ¬ RightP now up rs ws) :
    Calls Tryd.prog 22 #[scV now up A n c B m d] w fun e w' => e = .returned (.tuple #[plV ⟨0, 0, emptyS⟩, .bool false, .int .i64 1]) ∧ Below w.heap.size w w' := by
  have HA := Lib.hid hA
  have HB := Lib.hid hB
  have HI := Lib.hid hb
  have HR := Lib.hid hR
  clear hA hB hb hR
  go_enter Tryd.func22, Tryd.ntmps22
  have HS0 := Lib.hid (Ms.nil w noB)
  go_wp2_with (first
    | (have hq := HS0; clear hq; (with_reducible refine atBox ?_); refine wpList_alloc_b rfl (some 1) rfl 38 ((scA now up A n c B m d)) (by kernel_rfl) ?_; intro g1 W1 hb hB hg; have HS1 := Lib.hid (HS0.out.new hb hB hg); clear hb hB hg HS0)
    | (have hq := HS1; clear hq; (with_reducible refine atAlloc ?_); refine wpList_alloc_b rfl (some 2) rfl 47 (#[.int .i64 0, .int .i64 0, .int .u64 0, .int .u64 0, .int .u64 0, .int .u64 0]) (by kernel_rfl) ?_; intro g2 W2 hb hB hg; have HS2 := Lib.hid (HS1.out.new hb hB hg); clear hb hB hg HS1)
    | (have hq := HS2; clear hq; (with_reducible refine atLoad ?_); refine wpList_load_at rfl 38 _ rfl (HS2.out.at_ 0 rfl) 7 (scV now up A n c B m d) rfl _ Tryd.underlying38 rfl (by kernel_rfl) (Nat.le_of_ble_eq_true rfl) rfl ?_))
  refine (right_n now up A n c rs B m d ws _ (HA.out.below HS2.out.below) (HB.out.below HS2.out.below) HI.out HR.out).mono ?_
  rintro e W3 ⟨rfl, hb⟩
  have HS3 := Lib.hid (HS2.out.after hb)
  clear hb HS2
  go_wp2_with (have hq := HS3; clear hq; (with_reducible refine atStore ?_); refine wpList_store_at rfl 47 _ _ rfl (HS3.out.at_ 1 rfl) (.agg #[.int .i64 0, .int .i64 0, .int .u64 0, .int .u64 0, .int .u64 0, .int .u64 0]) rfl rfl (by kernel_rfl) (Nat.le_of_ble_eq_true rfl) (by kernel_rfl) ?_; intro W4 hB hP; have HS4 := Lib.hid (HS3.out.put 1 rfl (new := #[.int .i64 0, .int .i64 0, .int .u64 0, .int .u64 0, .int .u64 0, .int .u64 0]) hB hP); clear hB hP HS3)
  exact post_cell_tmp2 (x := .bool false) (y := .int .i64 1) rfl rfl rfl rfl (HS4.out.at_ 1 rfl) Tryd.underlying47 rfl (by kernel_rfl) rfl ⟨rfl, HS4.out.below⟩
set_option maxHeartbeats 8000000 in
theorem head_nil (now : Int) (up : NS) (A : Option Addr) (n c : Nat) (rs : List Ru) (B : Option Addr) (m d : Nat) (ws : List Wi) (w : World) (hA : RdR w A n rs) (hB : RdW w B m ws) (hb : ∀ x ∈ ws, -9223372036854775808 ≤ x.id ∧ x.id ≤ 9223372036854775807) (hR : RightP now up rs ws) (hm : m = 0) :
    Calls Tryd.prog 22 #[scV now up A n c B m d] w fun e w' => e = .returned (.tuple #[plV ⟨0, 0, emptyS⟩, .bool false, .int .i64 0]) ∧ Below w.heap.size w w' := by
  have HA := Lib.hid hA
  have HB := Lib.hid hB
  have HI := Lib.hid hb
  have HR := Lib.hid hR
  clear hA hB hb hR
  subst hm
  go_enter Tryd.func22, Tryd.ntmps22
  have HS0 := Lib.hid (Ms.nil w noB)
  go_wp2_with (first
    | (have hq := HS0; clear hq; (with_reducible refine atBox ?_); refine wpList_alloc_b rfl (some 1) rfl 38 ((scA now up A n c B 0 d)) (by kernel_rfl) ?_; intro g1 W1 hb hB hg; have HS1 := Lib.hid (HS0.out.new hb hB hg); clear hb hB hg HS0)
    | (have hq := HS1; clear hq; (with_reducible refine atAlloc ?_); refine wpList_alloc_b rfl (some 2) rfl 47 (#[.int .i64 0, .int .i64 0, .int .u64 0, .int .u64 0, .int .u64 0, .int .u64 0]) (by kernel_rfl) ?_; intro g2 W2 hb hB hg; have HS2 := Lib.hid (HS1.out.new hb hB hg); clear hb hB hg HS1)
    | (have hq := HS2; clear hq; (with_reducible refine atLoad ?_); refine wpList_load_at rfl 38 _ rfl (HS2.out.at_ 0 rfl) 7 (scV now up A n c B 0 d) rfl _ Tryd.underlying38 rfl (by kernel_rfl) (Nat.le_of_ble_eq_true rfl) rfl ?_))
  refine (right_y now up A n c rs B 0 d ws _ (HA.out.below HS2.out.below) (HB.out.below HS2.out.below) HI.out HR.out).mono ?_
  rintro e W3 ⟨rfl, hb⟩
  have HS3 := Lib.hid (HS2.out.after hb)
  clear hb HS2
  obtain ⟨r0a, r0b, r0c⟩ := HS3.out.rules 0 rfl
  go_wp2_with (have hq := HS3; clear hq; (with_reducible refine atStore ?_); refine wpList_store_at rfl 47 _ _ rfl (HS3.out.at_ 1 rfl) (.agg #[.int .i64 0, .int .i64 0, .int .u64 0, .int .u64 0, .int .u64 0, .int .u64 0]) rfl rfl (by kernel_rfl) (Nat.le_of_ble_eq_true rfl) (by kernel_rfl) ?_; intro W4 hB hP; have HS4 := Lib.hid (HS3.out.put 1 rfl (new := #[.int .i64 0, .int .i64 0, .int .u64 0, .int .u64 0, .int .u64 0, .int .u64 0]) hB hP); clear hB hP HS3; clear r0a r0b r0c)
  exact post_cell_tmp2 (x := .bool false) (y := .int .i64 0) rfl rfl rfl rfl (HS4.out.at_ 1 rfl) Tryd.underlying47 rfl (by kernel_rfl) rfl ⟨rfl, HS4.out.below⟩
set_option maxHeartbeats 32000000 in
theorem head_cons (now : Int) (up : NS) (A : Option Addr) (n c : Nat) (rs : List Ru) (B : Option Addr) (m d : Nat) (ws : List Wi) (w : World) (hA : RdR w A n rs) (hB : RdW w B m ws) (hb : ∀ x ∈ ws, -9223372036854775808 ≤ x.id ∧ x.id ≤ 9223372036854775807) (hR : RightP now up rs ws) (x : Wi) (hx : ws[0]? = some x) (y : Pl) (b : Bool) (hy : (planO up (busyL now up rs) now x).getD ⟨0, 0, emptyS⟩ = y) (hbb : (planO up (busyL now up rs) now x).isSome = b) (hT : TabW w) :
    Calls Tryd.prog 22 #[scV now up A n c B m d] w fun e w' => e = .returned (.tuple #[plV y, .bool b, .int .i64 0]) ∧ Below w.heap.size w w' := by
  have HXO := Lib.hid (hR.wish.ok x (List.mem_of_getElem? hx))
  have HYY := Lib.hid hy
  have HBB := Lib.hid hbb
  have HTab := Lib.hid hT
  have hm : 0 < m := by have := hB.1; have := (List.getElem?_eq_some_iff.1 hx).1; omega
  have hmI : (0 : Int) < (m : Int) := by omega
  have hm0 : ((m : Int) == 0) = false := beq_false_of_ne (by omega)
  obtain ⟨ad, z, hBe, hz, hc⟩ := hB.at_ hm
  subst hBe
  obtain rfl : z = x := by rw [hx] at hz; cases hz; rfl
  have e0 := hc 0 _ rfl
  have e1 := hc 1 _ rfl
  have e2 := hc 2 _ rfl
  have e3 := hc 3 _ rfl
  have e4 := hc 4 _ rfl
  have e5 := hc 5 _ rfl
  have e6 := hc 6 _ rfl
  simp only [Nat.zero_mul, Addr.add_zero', show ∀ k, 0 < k → ad.add k = ⟨ad.block, ad.off + k, none⟩ from fun k hk => by unfold Addr.add; rw [if_neg (by omega)], Nat.lt_add_one, Nat.zero_lt_succ] at e0 e1 e2 e3 e4 e5 e6
  have HCC := Lib.hid (And.intro e0 (And.intro e1 (And.intro e2 (And.intro e3 (And.intro e4 (And.intro e5 e6))))))
  clear hc hx hz hy hbb hT e0 e1 e2 e3 e4 e5 e6
  have HA := Lib.hid hA
  have HB := Lib.hid hB
  have HI := Lib.hid hb
  have HR := Lib.hid hR
  clear hA hB hb hR
  go_enter Tryd.func22, Tryd.ntmps22
  have HS0 := Lib.hid (Ms.nil w noB)
  go_wp2_with (first
    | (have hq := HS0; clear hq; (with_reducible refine atBox ?_); refine wpList_alloc_b rfl (some 1) rfl 38 ((scA now up A n c (some ad) m d)) (by kernel_rfl) ?_; intro g1 W1 hb hB hg; have HS1 := Lib.hid (HS0.out.new hb hB hg); clear hb hB hg HS0)
    | (have hq := HS1; clear hq; (with_reducible refine atAlloc ?_); refine wpList_alloc_b rfl (some 2) rfl 47 (#[.int .i64 0, .int .i64 0, .int .u64 0, .int .u64 0, .int .u64 0, .int .u64 0]) (by kernel_rfl) ?_; intro g2 W2 hb hB hg; have HS2 := Lib.hid (HS1.out.new hb hB hg); clear hb hB hg HS1)
    | (have hq := HS2; clear hq; (with_reducible refine atLoad ?_); refine wpList_load_at rfl 38 _ rfl (HS2.out.at_ 0 rfl) 7 (scV now up A n c (some ad) m d) rfl _ Tryd.underlying38 rfl (by kernel_rfl) (Nat.le_of_ble_eq_true rfl) rfl ?_))
  refine (right_y now up A n c rs (some ad) m d ws _ (HA.out.below HS2.out.below) (HB.out.below HS2.out.below) HI.out HR.out).mono ?_
  rintro e W3 ⟨rfl, hb⟩
  have HS3 := Lib.hid (HS2.out.after hb)
  clear hb HS2
  obtain ⟨r0a, r0b, r0c⟩ := HS3.out.rules 0 rfl
  go_wp2_with fail
  have HGo := Lib.hid (busy_goo (up := up) HR.out.n0 HR.out.n1 rs)
  have HK := Lib.hid (fun (V : World) (hb : Below W3.heap.size W3 V) => (show (Below W3.heap.size W3 V ∧ (∀ o, V.cell? ⟨g1, o, none⟩ = (scA now up A n c (some ad) m d)[o]?) ∧ V.cell? ad = some (.int .i64 z.id) ∧ V.cell? ⟨ad.block, ad.off + 1, none⟩ = some (.int .i64 z.n) ∧ V.cell? ⟨ad.block, ad.off + 2, none⟩ = some (.int .i64 z.long) ∧ V.cell? ⟨ad.block, ad.off + 3, none⟩ = some (.int .u64 (wn z.of 0 : Nat)) ∧ V.cell? ⟨ad.block, ad.off + 4, none⟩ = some (.int .u64 (wn z.of 1 : Nat)) ∧ V.cell? ⟨ad.block, ad.off + 5, none⟩ = some (.int .u64 (wn z.of 2 : Nat)) ∧ V.cell? ⟨ad.block, ad.off + 6, none⟩ = some (.int .u64 (wn z.of 3 : Nat))) from by
    have hw := below_then HS3.out.below HS3.out.below.size hb
    obtain ⟨e0, e1, e2, e3, e4, e5, e6⟩ := HCC.out
    exact ⟨hb, ((HS3.out.at_ 0 rfl).after hb).cell, (hw.cell (block_lt_of_cell e0)).trans e0, (hw.cell (block_lt_of_cell e1)).trans e1, (hw.cell (block_lt_of_cell e2)).trans e2, (hw.cell (block_lt_of_cell e3)).trans e3, (hw.cell (block_lt_of_cell e4)).trans e4, (hw.cell (block_lt_of_cell e5)).trans e5, (hw.cell (block_lt_of_cell e6)).trans e6⟩))
  have HK2 := Lib.hid (fun (V X : World) (hh : (Below W3.heap.size W3 V ∧ (∀ o, V.cell? ⟨g1, o, none⟩ = (scA now up A n c (some ad) m d)[o]?) ∧ V.cell? ad = some (.int .i64 z.id) ∧ V.cell? ⟨ad.block, ad.off + 1, none⟩ = some (.int .i64 z.n) ∧ V.cell? ⟨ad.block, ad.off + 2, none⟩ = some (.int .i64 z.long) ∧ V.cell? ⟨ad.block, ad.off + 3, none⟩ = some (.int .u64 (wn z.of 0 : Nat)) ∧ V.cell? ⟨ad.block, ad.off + 4, none⟩ = some (.int .u64 (wn z.of 1 : Nat)) ∧ V.cell? ⟨ad.block, ad.off + 5, none⟩ = some (.int .u64 (wn z.of 2 : Nat)) ∧ V.cell? ⟨ad.block, ad.off + 6, none⟩ = some (.int .u64 (wn z.of 3 : Nat)))) (hb : Below V.heap.size V X) => HK.out X (below_then hh.1 hh.1.size hb))
  have HK6 := Lib.hid (fun (V : World) (g7 : Nat) (v0 v1 v2 v3 v4 v5 : Value) (hh : (Below W3.heap.size W3 V ∧ (∀ o, V.cell? ⟨g1, o, none⟩ = (scA now up A n c (some ad) m d)[o]?) ∧ V.cell? ad = some (.int .i64 z.id) ∧ V.cell? ⟨ad.block, ad.off + 1, none⟩ = some (.int .i64 z.n) ∧ V.cell? ⟨ad.block, ad.off + 2, none⟩ = some (.int .i64 z.long) ∧ V.cell? ⟨ad.block, ad.off + 3, none⟩ = some (.int .u64 (wn z.of 0 : Nat)) ∧ V.cell? ⟨ad.block, ad.off + 4, none⟩ = some (.int .u64 (wn z.of 1 : Nat)) ∧ V.cell? ⟨ad.block, ad.off + 5, none⟩ = some (.int .u64 (wn z.of 2 : Nat)) ∧ V.cell? ⟨ad.block, ad.off + 6, none⟩ = some (.int .u64 (wn z.of 3 : Nat)))) (hg : W3.heap.size ≤ g7) => HK.out _ (below_six hh.1 hg v0 v1 v2 v3 v4 v5))
  have HK0 := Lib.hid (HK.out W3.drew (Below.refl _ _).drew)
  have HKz := Lib.hid (fun (o : Obj) => HK.out ((W3.alloc o).drew) (alloc_b W3 o))
  have HKo := Lib.hid (fun (V : World) (o : Obj) (hh : (Below W3.heap.size W3 V ∧ (∀ o, V.cell? ⟨g1, o, none⟩ = (scA now up A n c (some ad) m d)[o]?) ∧ V.cell? ad = some (.int .i64 z.id) ∧ V.cell? ⟨ad.block, ad.off + 1, none⟩ = some (.int .i64 z.n) ∧ V.cell? ⟨ad.block, ad.off + 2, none⟩ = some (.int .i64 z.long) ∧ V.cell? ⟨ad.block, ad.off + 3, none⟩ = some (.int .u64 (wn z.of 0 : Nat)) ∧ V.cell? ⟨ad.block, ad.off + 4, none⟩ = some (.int .u64 (wn z.of 1 : Nat)) ∧ V.cell? ⟨ad.block, ad.off + 5, none⟩ = some (.int .u64 (wn z.of 2 : Nat)) ∧ V.cell? ⟨ad.block, ad.off + 6, none⟩ = some (.int .u64 (wn z.of 3 : Nat)))) => HK.out (V.alloc o) (below_then hh.1 hh.1.size ((Below.refl _ _).alloc (Nat.le_refl _) o)))
  have HKd := Lib.hid (fun (V : World) (o : Obj) (hh : (Below W3.heap.size W3 V ∧ (∀ o, V.cell? ⟨g1, o, none⟩ = (scA now up A n c (some ad) m d)[o]?) ∧ V.cell? ad = some (.int .i64 z.id) ∧ V.cell? ⟨ad.block, ad.off + 1, none⟩ = some (.int .i64 z.n) ∧ V.cell? ⟨ad.block, ad.off + 2, none⟩ = some (.int .i64 z.long) ∧ V.cell? ⟨ad.block, ad.off + 3, none⟩ = some (.int .u64 (wn z.of 0 : Nat)) ∧ V.cell? ⟨ad.block, ad.off + 4, none⟩ = some (.int .u64 (wn z.of 1 : Nat)) ∧ V.cell? ⟨ad.block, ad.off + 5, none⟩ = some (.int .u64 (wn z.of 2 : Nat)) ∧ V.cell? ⟨ad.block, ad.off + 6, none⟩ = some (.int .u64 (wn z.of 3 : Nat)))) => HK.out ((V.alloc o).drew) (below_then hh.1 hh.1.size (alloc_b V o)))
  have HBg := Lib.hid (fun (V : World) (hh : (Below W3.heap.size W3 V ∧ (∀ o, V.cell? ⟨g1, o, none⟩ = (scA now up A n c (some ad) m d)[o]?) ∧ V.cell? ad = some (.int .i64 z.id) ∧ V.cell? ⟨ad.block, ad.off + 1, none⟩ = some (.int .i64 z.n) ∧ V.cell? ⟨ad.block, ad.off + 2, none⟩ = some (.int .i64 z.long) ∧ V.cell? ⟨ad.block, ad.off + 3, none⟩ = some (.int .u64 (wn z.of 0 : Nat)) ∧ V.cell? ⟨ad.block, ad.off + 4, none⟩ = some (.int .u64 (wn z.of 1 : Nat)) ∧ V.cell? ⟨ad.block, ad.off + 5, none⟩ = some (.int .u64 (wn z.of 2 : Nat)) ∧ V.cell? ⟨ad.block, ad.off + 6, none⟩ = some (.int .u64 (wn z.of 3 : Nat)))) => begin_c now up A n c rs (some ad) m d V (HA.out.below (below_then HS3.out.below HS3.out.below.size hh.1)) HR.out.n0 HR.out.n1 (by have := HR.out.lr; have := HA.out.1; omega) HR.out.runs.end_)
  have HTb := Lib.hid (fun (V : World) (hh : (Below W3.heap.size W3 V ∧ (∀ o, V.cell? ⟨g1, o, none⟩ = (scA now up A n c (some ad) m d)[o]?) ∧ V.cell? ad = some (.int .i64 z.id) ∧ V.cell? ⟨ad.block, ad.off + 1, none⟩ = some (.int .i64 z.n) ∧ V.cell? ⟨ad.block, ad.off + 2, none⟩ = some (.int .i64 z.long) ∧ V.cell? ⟨ad.block, ad.off + 3, none⟩ = some (.int .u64 (wn z.of 0 : Nat)) ∧ V.cell? ⟨ad.block, ad.off + 4, none⟩ = some (.int .u64 (wn z.of 1 : Nat)) ∧ V.cell? ⟨ad.block, ad.off + 5, none⟩ = some (.int .u64 (wn z.of 2 : Nat)) ∧ V.cell? ⟨ad.block, ad.off + 6, none⟩ = some (.int .u64 (wn z.of 3 : Nat)))) => (HTab.out.after (below_then HS3.out.below HS3.out.below.size hh.1) : TabW V))
  clear r0a r0b r0c
  go_region_held3 (fun X2 => (Below W3.heap.size W3 X2 ∧ (∀ o, X2.cell? ⟨g1, o, none⟩ = (scA now up A n c (some ad) m d)[o]?) ∧ X2.cell? ad = some (.int .i64 z.id) ∧ X2.cell? ⟨ad.block, ad.off + 1, none⟩ = some (.int .i64 z.n) ∧ X2.cell? ⟨ad.block, ad.off + 2, none⟩ = some (.int .i64 z.long) ∧ X2.cell? ⟨ad.block, ad.off + 3, none⟩ = some (.int .u64 (wn z.of 0 : Nat)) ∧ X2.cell? ⟨ad.block, ad.off + 4, none⟩ = some (.int .u64 (wn z.of 1 : Nat)) ∧ X2.cell? ⟨ad.block, ad.off + 5, none⟩ = some (.int .u64 (wn z.of 2 : Nat)) ∧ X2.cell? ⟨ad.block, ad.off + 6, none⟩ = some (.int .u64 (wn z.of 3 : Nat))))
    (first | with_reducible exact HK0.out | with_reducible exact HKz.out _ | with_reducible exact HK6.out _ _ _ _ _ _ _ _ hS6 (Nat.le_refl _) | with_reducible exact HK6.out _ _ _ _ _ _ _ _ hS6 (by have h1 := hM.below.size; have h2 := hb.size; simp at h1 h2 ⊢; omega) | with_reducible exact HKo.out _ _ hS6 | with_reducible exact HK2.out _ _ ‹_› hb | with_reducible exact HKo.out _ _ ‹_› | with_reducible exact HKd.out _ _ ‹_› | (trace_state; fail))
    (first
      | ((with_reducible refine (HBg.out _ ‹_›).mono ?_); rintro e w5 ⟨q, g, A5, c5, rfl, hM⟩; have hb := hM.below; have hO := hM.ok 0 _ rfl; have hS5 := HK2.out _ _ ‹_› hb; (first | (with_reducible have hN5 := NWb hb) | (with_reducible have hN5 := NWd hb) | skip))
      | ((with_reducible refine (plan_b q g now up A5 c5 rs z y b _ (by first | exact hO | exact Own.keepB hO (alloc_b _ _) | exact Own.keepB hO ((Below.refl _ _).alloc (Nat.le_refl _) _)) HGo.out (HTb.out _ ‹_›) HXO.out HR.out.n1 HYY.out HBB.out).mono ?_); rintro e w6 ⟨rfl, hb⟩; have hS6 := HK2.out _ _ ‹_› hb; (first | (with_reducible have hN6 := NWb hb; refine And.elim (fun n1 n23 => And.elim (fun n2 n3 => ?_) n23) hN6.rules) | (with_reducible have hN6 := NWd hb; refine And.elim (fun n1 n23 => And.elim (fun n2 n3 => ?_) n23) hN6.rules) | (with_reducible have hN6 := Blk.after hN5 hb; refine And.elim (fun n1 n23 => And.elim (fun n2 n3 => ?_) n23) hN6.rules) | skip)))
  all_goals first
    | (have h6 := HS3.out.new hS6.1 hN6 (by first | exact Nat.le_refl _ | exact hS5.1.size); have HS9 := Lib.hid (h6.put 2 rfl ((h6.at_ 2 rfl).six (.int .i64 y.id) (.int .i64 y.at_) (.int .u64 (wn y.nodes 0 : Nat)) (.int .u64 (wn y.nodes 1 : Nat)) (.int .u64 (wn y.nodes 2 : Nat)) (.int .u64 (wn y.nodes 3 : Nat))) (put_six w6 _ (.int .i64 y.id) (.int .i64 y.at_) (.int .u64 (wn y.nodes 0 : Nat)) (.int .u64 (wn y.nodes 1 : Nat)) (.int .u64 (wn y.nodes 2 : Nat)) (.int .u64 (wn y.nodes 3 : Nat)))))
    | (have HS9 := Lib.hid ((HS3.out.after hS6.1).new (g := w6.heap.size) ((Below.refl _ _).alloc (Nat.le_refl _) (Obj.cells (plA y) 47)) (Blk.new _ _ _) (Nat.le_refl _)))
  all_goals
    go_wp2_with (first
      | (have hq := HS9; clear hq; (with_reducible refine atLoad ?_); refine wpList_load_at rfl 47 _ rfl (HS9.out.at_ 2 rfl) 6 (plV y) rfl _ Tryd.underlying47 rfl (by kernel_rfl) (Nat.le_of_ble_eq_true rfl) rfl ?_)
      | (have hq := HS9; clear hq; (with_reducible refine atStore ?_); refine wpList_store_at rfl 47 _ _ rfl (HS9.out.at_ 1 rfl) (plV y) rfl rfl (by kernel_rfl) (Nat.le_of_ble_eq_true rfl) (by kernel_rfl) ?_; intro W10 hB hP; have HS10 := Lib.hid (HS9.out.put 1 rfl (new := (plA y)) hB hP); clear hB hP HS9))
    exact post_cell_tmp2 (x := .bool b) (y := .int .i64 0) rfl rfl rfl rfl (HS10.out.at_ 1 rfl) Tryd.underlying47 rfl (by kernel_rfl) rfl ⟨rfl, HS10.out.below⟩
end Go.Proofs.YtkgphbjneaagoaaDoor
