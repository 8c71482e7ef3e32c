/- Scale: Decide. -/
import Derived.Test.YtmhbblkihjmonaaDoorS2
set_option linter.unusedVariables false
namespace Go.Proofs.YtmhbblkihjmonaaDoor
open Go.RowKit Go.Sort

def on1S (v : Vw) : NS := lowS (v.off &&& v.wnt) (if v.cp - (cnt v.pow : Nat) < v.rt then v.cp - (cnt v.pow : Nat) else v.rt)
def on2S (v : Vw) : NS := lowS (notS v.off v.wnt) (if v.mn - (cnt v.pow : Nat) - (cnt (on1S v) : Nat) < v.rt - (cnt (on1S v) : Nat) then v.mn - (cnt v.pow : Nat) - (cnt (on1S v) : Nat) else v.rt - (cnt (on1S v) : Nat))
def onS (v : Vw) : NS := on1S v ||| on2S v
def offS (v : Vw) : NS := highS (notS v.old v.wnt) ((cnt v.pow : Nat) + (cnt (onS v) : Nat) - v.mn)
abbrev z4 : Array Value := #[.int .u64 0, .int .u64 0, .int .u64 0, .int .u64 0]

theorem post_cells_tmp {P : Program} {fn : Func} {R : Ending → World → Prop} {a : Act} {w : World} {p q g k u : Nat} {ty t : TypeId} {cs ds : Array Value} {d : TypeDesc} {x : Value} (h : fn.results = #[.cell p ty, .cell q ty, .tmp u])
    (hp : a.tmps.getD p undef = .pointer (some ⟨g, 0, none⟩)) (hq : a.tmps.getD q undef = .pointer (some ⟨k, 0, none⟩)) (hu' : a.tmps.getD u undef = x) (hB : Blk w g t cs) (hC : Blk w k t ds) (hu : P.underlying ty = some d) (hd : (match d with | .struct _ | .array _ _ => true | _ => false) = true)
    (hi : (P.info? ty).map (·.size) = some cs.size) (hj : (P.info? ty).map (·.size) = some ds.size) (hdf : a.defers = []) (hR : R (.returned (.tuple #[.agg cs, .agg ds, x])) w) : bodyPost P fn R .ret a w := by
  have hp' : a.tmps[p]?.getD undef = .pointer (some ⟨g, 0, none⟩) := by simpa using hp
  have hq' : a.tmps[q]?.getD undef = .pointer (some ⟨k, 0, none⟩) := by simpa using hq
  have hx' : a.tmps[u]?.getD undef = x := by simpa using hu'
  exact bodyPost_ret (v := .tuple #[.agg cs, .agg ds, x]) (by simp [results, h, hp', hq', hx', asAddr, run_loadVar_row w g t ty cs (0, 0) d hB hu hd hi, run_loadVar_row w k t ty ds (0, 0) d hC hu hd hj]) hdf hR

set_option maxHeartbeats 4000000 in
theorem decide_no (v : Vw) (hr : rightB v = false) (w : World) : Calls Tryd.prog 40 #[viewV v] w fun e w' => e = .returned (.tuple #[nsV emptyS, nsV emptyS, .int .i64 1]) ∧ Below w.heap.size w w' := by
  rw [empty_val]
  have hv := right_c v
  rw [hr] at hv
  have HV := Lib.hid hv
  clear hv
  have H1 := Lib.hid (((Blk.new w 47 (viewA v)).alloc (.cells z4 24)).alloc (.cells z4 24))
  go_enter Tryd.func40, Tryd.ntmps40
  go_wp2_with (refine wpList_load_row rfl 47 _ rfl w.heap.size rfl 47 (viewA v) (0, 0) _ H1.out Tryd.underlying47 rfl (by kernel_rfl) ?_)
  refine (HV.out _).mono ?_
  rintro e w1 ⟨rfl, hb⟩
  have B2 := ((Blk.new' (w := w.alloc (.cells (viewA v) 47)) (g := w.heap.size + 1) (t := 24) (cs := z4) (by simp)).alloc (.cells z4 24)).after hb
  have B3 := (Blk.new' (w := (w.alloc (.cells (viewA v) 47)).alloc (.cells z4 24)) (g := w.heap.size + 1 + 1) (t := 24) (cs := z4) (by simp)).after hb
  have HL := Lib.hid (below_then ((((Below.refl w.heap.size w).alloc (by simp) _).alloc (by simp) _).alloc (by simp; omega) _) (by simp; omega) hb)
  obtain ⟨p1, p2, p3⟩ := B2.rules
  obtain ⟨q1, q2, q3⟩ := B3.rules
  have C2 := Lib.hid B2
  have C3 := Lib.hid B3
  clear B2 B3 hb
  go_wp2_with fail
  exact post_cells_tmp rfl rfl rfl rfl ((C2.out.four _ _ _ _).far4 (by omega) _ _ _ _) ((C3.out.far4 (by omega) _ _ _ _).four _ _ _ _) Tryd.underlying24 rfl (by kernel_rfl) (by kernel_rfl) rfl ⟨rfl, below_four (below_four HL.out (by omega) _ _ _ _) (by omega) _ _ _ _⟩

end Go.Proofs.YtmhbblkihjmonaaDoor
