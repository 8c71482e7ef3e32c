/- Code: the writer's Nodes, Bytes. -/
import Derived.Test.YtphmaimgpolaoaaC4
import Derived.Deep.RegionHeld3
import Derived.Deep.RegionLaw
import Derived.BigRegion
import Derived.WalkLawsBesides
set_option linter.unusedVariables false
namespace Go.Proofs.Ytphmaimgpolaoaa
open Go.RowKit Go.Sort

def ndV (x0 x1 x2 x3 : Nat) : Value := .agg #[.int .u64 (x0 : Nat), .int .u64 (x1 : Nat), .int .u64 (x2 : Nat), .int .u64 (x3 : Nat)]
def encW (x : Nat) : List UInt8 := (List.range 8).map fun k => (x / 256 ^ k % 256).toUInt8
def wdAt (x0 x1 x2 x3 : Nat) : Nat → Nat
  | 0 => x0
  | 1 => x1
  | 2 => x2
  | _ => x3
def encN (x0 x1 x2 x3 : Nat) : List UInt8 := encW x0 ++ (encW x1 ++ (encW x2 ++ encW x3))
def encNk (x0 x1 x2 x3 k : Nat) : List UInt8 := (List.range k).flatMap fun i => encW (wdAt x0 x1 x2 x3 i)
theorem encNk_succ (x0 x1 x2 x3 k : Nat) : encNk x0 x1 x2 x3 (k + 1) = encNk x0 x1 x2 x3 k ++ encW (wdAt x0 x1 x2 x3 k) := by
  unfold encNk; rw [List.range_succ, List.flatMap_append]; simp
theorem encNk_four (x0 x1 x2 x3 : Nat) : encNk x0 x1 x2 x3 4 = encN x0 x1 x2 x3 := by simp [encNk, encN, List.range_succ, wdAt]
theorem encW_len (x : Nat) : (encW x).length = 8 := by simp [encW]
theorem encN_len (x0 x1 x2 x3 : Nat) : (encN x0 x1 x2 x3).length = 32 := by simp [encN, encW_len]
theorem encNk_len (x0 x1 x2 x3 k : Nat) : (encNk x0 x1 x2 x3 k).length = 8 * k := by
  induction k with
  | zero => rfl
  | succ k ih => rw [encNk_succ, List.length_append, ih, encW_len]; omega
def encWk (x k : Nat) : List UInt8 := (List.range k).map fun k => (x / 256 ^ k % 256).toUInt8
theorem encWk_succ (x k : Nat) : encWk x (k + 1) = encWk x k ++ [(x / 256 ^ k % 256).toUInt8] := by
  unfold encWk; rw [List.range_succ, List.map_append]; rfl
theorem encWk_len (x k : Nat) : (encWk x k).length = k := by simp [encWk]
theorem idx_nd (x0 x1 x2 x3 k : Nat) (hk : k < 4) (w : World) : (Instr.index 41 (ndV x0 x1 x2 x3) (.int .i64 (k : Nat))).run Try.prog w = .ok (.int .u64 (wdAt x0 x1 x2 x3 k : Nat)) w := by
  have h : k = 0 ∨ k = 1 ∨ k = 2 ∨ k = 3 := by omega
  rcases h with rfl | rfl | rfl | rfl
  · exact (by kernel_rfl : _ = _)
  · exact (by kernel_rfl : _ = _)
  · exact (by kernel_rfl : _ = _)
  · exact (by kernel_rfl : _ = _)
theorem Ms.allocd {w W : World} {ex : Nat → Prop} {l : List Own} (h : Ms w ex l W) (t : TypeId) (cs : Array Value) : Ms w ex (l ++ [.blk W.heap.size t cs]) (W.alloc (.cells cs t)) :=
  h.new ((Below.refl _ _).alloc (Nat.le_refl _) _) (Blk.new _ _ _) (Nat.le_refl _)
theorem Ms.set {w W : World} {ex : Nat → Prop} {l : List Own} (h : Ms w ex l W) (i k : Nat) (v : Value) {g : Nat} {t : TypeId} {old new : Array Value} (hi : l[i]? = some (.blk g t old)) (hn : old.setIfInBounds k v = new) : Ms w ex (l.set i (.blk g t new)) (W.setCell ⟨g, k, none⟩ v) :=
  h.put i hi (hn ▸ (h.at_ i hi).set_ k v) (put_setCell W g k v)
/-- append at a step of a region that draws its order. -/
theorem step_append_bytes {ops : Array Oper} {o : Oper} {a : Act} {K : Act → World → Prop} {Q : Exit → Act → World → Prop} {E : Prop} {w W : World} {ex : Nat → Prop} {l : List Own} (h : Ms w ex l W) (i j : Nat) (hgd : o.guard = none) (s x : Operand) (ho : o.op = .call { callee := .builtin .append, args := #[s, x], argTypes := #[22, 22] })
    (v : Value) (bs ys : List UInt8) (g : Nat) (cs : Array Value) (hs : a.eval s = v) (hrow : l[i]? = some (.row 5 1 v bs.length (byt bs))) (hx : a.eval x = .slice (some ⟨g, 0, none⟩) ys.length ys.length)
    (hblk : l[j]? = some (.blk g 5 cs)) (hcs : cs.toList = byt ys) (hlen : bs.length + ys.length ≤ 140737488355328) (zs : List UInt8) (hz : bs ++ ys = zs)
    (hK : ∀ A' c' W', Ms w ex (l.set i (.row 5 1 (.slice A' zs.length c') zs.length (byt zs))) W' → K (a.put o.dst (.slice A' zs.length c')) W') :
    if Region.wanted o (yielded ops a.tmps) = true then Oper.wp Try.prog o a W K Q else E := by
  subst hz
  have hw : Region.wanted o (yielded ops a.tmps) = true := by simp [Region.wanted, hgd]
  rw [if_pos hw]
  obtain ⟨i0, hi, hzz⟩ := Option.map_eq_some_iff.1 info_u8
  simp only [Prod.mk.injEq] at hzz
  obtain ⟨hz0, hz1, hz2⟩ := hzz
  have hown := h.own i hrow
  have hB := h.at_ j hblk
  obtain ⟨v', w', hr, h2, h3, _, h5⟩ := run_append_own_at (P := Try.prog) W 0 22 o.type 5 i0 (.int .u8 0) 1 1 Try.underlying22 hi hz0 hz1 hz2 rfl (by omega) v bs.length (byt bs) hown ⟨g, 0, none⟩ ys.length ys.length (byt ys)
    (by rw [byt_length, Nat.mul_one]) (fun k u hu => by rw [add_plain, hB.cell, ← hu, ← hcs]; simp) (fun u hu => by simp only [byt, List.mem_map] at hu; obtain ⟨b, _, rfl⟩ := hu; rfl) (by simp only [maxLen]; omega) (by omega) (Nat.zero_le _)
  unfold Oper.wp execOp
  simp only [ho, resolve, invoke, builtin, Sem.run_bind, Sem.run_pure, Result.andThen_ok, List.map_toArray, List.map_cons, List.map_nil, hs, hx, hr]
  have h2' : w'.ownsRow 0 5 1 v' (bs ++ ys).length (byt (bs ++ ys)) := by rw [byt_append, List.length_append]; exact h2
  obtain ⟨A', c', rfl⟩ := row_form h2'
  refine hK A' c' w' (h.grown i hrow h2' h3 ?_)
  rcases h5 with h5 | h5
  · exact .inl h5
  · exact .inr (.inl h5)
set_option maxRecDepth 100000 in
set_option maxHeartbeats 4000000 in
theorem wNodes_c (g : Nat) (B : Option Addr) (d : Nat) (bs : List UInt8) (x0 x1 x2 x3 : Nat) (w : World) (hO : (Own.wr g B d bs).ok w) (hb : ∀ k, wdAt x0 x1 x2 x3 k < 18446744073709551616) (hlen : bs.length + 32 ≤ 140737488355328) :
    Calls Try.prog 17 #[.pointer (some ⟨g, 0, none⟩), ndV x0 x1 x2 x3] w (WrPost w g B d bs (bs ++ encN x0 x1 x2 x3)) := by
  have HS0 := Lib.hid (Ms.start hO)
  have HN := Lib.hid hlen
  have HBd := Lib.hid hb
  clear hO hlen hb
  go_enter Try.func17, Try.ntmps17
  go_wp2_with (first
    | (refine wpList_alloc_b rfl (some 3) rfl 41 #[.int .u64 (x0 : Nat), .int .u64 (x1 : Nat), .int .u64 (x2 : Nat), .int .u64 (x3 : Nat)] (by kernel_rfl) ?_; intro g1 W1 hb hB hg; have HS1 := Lib.hid (HS0.out.new hb hB hg); clear hb hB hg HS0)
    | (refine wpList_load_at rfl 41 _ rfl (HS1.out.at_ 1 rfl) 4 (ndV x0 x1 x2 x3) rfl _ Try.underlying41 rfl (by kernel_rfl) (Nat.le_of_ble_eq_true rfl) rfl ?_))
  have HS2 := Lib.hid (Ms.cut (l := [.wr g B d bs]) (k := [.blk g1 41 #[.int .u64 (x0 : Nat), .int .u64 (x1 : Nat), .int .u64 (x2 : Nat), .int .u64 (x3 : Nat)]]) HS1.out).wrOpen
  clear HS1
  go_loopw [10] (fun i wr => ∃ (k : Nat) (A' : Option Addr) (c' : Nat), k ≤ 4 ∧ i = .int .i64 k ∧ Ms w (Own.wr g B d bs).bl [blkW g A' c' (bs ++ encNk x0 x1 x2 x3 k), rowB A' c' (bs ++ encNk x0 x1 x2 x3 k)] wr) (fun i _ => 4 - (intOf i).toNat)
  case atStart => exact ⟨0, B, d, by omega, rfl, by simpa [encNk] using HS2.out⟩
  case round =>
    obtain ⟨k, A', c', hk, rfl, hS⟩ := hrel
    clear HS2
    have HS1 := Lib.hid hS
    clear hS
    by_cases hlt : k < 4
    · have hltI : (k : Int) < 4 := by omega
      have hidx := idx_nd x0 x1 x2 x3 k hlt
      obtain ⟨x, hxe⟩ : ∃ x, x = wdAt x0 x1 x2 x3 k := ⟨_, rfl⟩
      rw [← hxe] at hidx
      have hx64 := HBd.out k
      rw [← hxe] at hx64
      obtain ⟨out, hout⟩ : ∃ out, out = bs ++ encNk x0 x1 x2 x3 k := ⟨_, rfl⟩
      rw [← hout] at HS1
      have HT := Lib.hid (show bs ++ encNk x0 x1 x2 x3 (k + 1) = out ++ encWk x 8 by rw [hout, encNk_succ, ← hxe]; simp [encW, encWk])
      have HL := Lib.hid (show out.length + 8 ≤ 140737488355328 by rw [hout, List.length_append, encNk_len]; have := HN.out; omega)
      clear hxe hout
      go_wp2_with fail
      clear hidx
      go_loopw [13] (fun i wr2 => ∃ (j : Nat) (A2 : Option Addr) (c2 : Nat), j ≤ 8 ∧ i = .int .i64 j ∧ Ms w (Own.wr g B d bs).bl [blkW g A2 c2 (out ++ encWk x j), rowB A2 c2 (out ++ encWk x j)] wr2) (fun i _ => 8 - (intOf i).toNat)
      case atStart => exact ⟨0, A', c', by omega, rfl, by simpa [encWk] using HS1.out⟩
      case round =>
        obtain ⟨j, A2, c2, hj, rfl, hS⟩ := hrel
        clear HS1
        have HS2 := Lib.hid hS
        clear hS
        by_cases hlt2 : j < 8
        · have hltJ : (j : Int) < 8 := by omega
          obtain ⟨done, hdone⟩ : ∃ done, done = out ++ encWk x j := ⟨_, rfl⟩
          rw [← hdone] at HS2
          obtain ⟨Y, hY⟩ : ∃ Y : Nat, Y = x / 256 ^ j % 256 := ⟨_, rfl⟩
          have HF := Lib.hid (show done ++ [Y.toUInt8] = out ++ encWk x (j + 1) by rw [hdone, encWk_succ, hY, List.append_assoc])
          have HC := Lib.hid (lit_u8 (x := Y) (by omega))
          have HB := Lib.hid (show done.length + 1 ≤ 140737488355328 by rw [hdone, List.length_append, encWk_len]; have := HL.out; omega)
          obtain ⟨nx, hnx⟩ : ∃ nx, nx = out ++ encWk x (j + 1) := ⟨_, rfl⟩
          rw [← hnx] at HF
          have HG := Lib.hid hnx
          clear hdone hnx
          have hw1 : IntKind.i64.wrap (8 * (j : Int)) = 8 * (j : Int) := by rw [IntKind.wrap_i64]; omega
          obtain ⟨c1, c2', c3⟩ := HS2.out.rules 0 rfl
          have hcell : wr.cell? ⟨g, 0, none⟩ = some (slB A2 c2 done) := c1 0
          have hfro : wr.frozen? ⟨g, 0, none⟩ = false := c2' 0
          clear c1 c2'
          have hv : IntKind.u8.wrap ((x : Int) / 2 ^ (8 * (j : Int)).toNat) = (Y : Int) := by
            have e1 : ((2 : Int) ^ (8 * (j : Int)).toNat) = ((256 ^ j : Nat) : Int) := by
              rw [show (8 * (j : Int)).toNat = 8 * j by omega, Int.pow_mul]
              norm_cast
            rw [e1, ← Int.natCast_ediv, byte_lo, hY]
          clear hY
          have hnf : ∀ ob, ((wr.alloc ob).drew).frozen? ⟨g, 0, none⟩ = false := fun ob => ((HS2.out.after ((Below.refl _ _).alloc (Nat.le_refl _) ob)).rules 0 rfl).2.1 0
          go_wp2_with fail
          go_region_law ((refine step_append_bytes ((HS2.out.allocd 5 #[.int .u8 (Y : Nat)]).drewN 1) 1 2 (by rfl) _ _ (by rfl) _ done [Y.toUInt8] _ _ (by rfl) (by rfl) (by rfl) (by rfl) HC.out HB.out nx HF.out ?_; intro A4 c4 W4 hM; have hx1 := (hM.rules 0 rfl).1 0; have hx2 := (hM.rules 0 rfl).2.1 0))
          all_goals
            have HS5 := Lib.hid (hM.set 0 0 (slB A4 c4 nx) rfl (new := #[slB A4 c4 nx]) rfl)
            clear hM hx1 hx2 hnf hv hcell hfro HS2
            go_wp2_with fail
            refine ⟨⟨j + 1, A4, c4, by omega, by go_num, ?_⟩, by simp [intOf]; omega⟩
            rw [← HG.out]
            exact Ms.cut (l := [blkW g A4 c4 nx, rowB A4 c4 nx]) (k := [.blk wr.heap.size 5 #[.int .u8 (Y : Nat)]]) HS5.out
        · obtain rfl : j = 8 := by omega
          go_wp2_with fail
          refine ⟨⟨k + 1, A2, c2, by omega, by go_num, ?_⟩, by simp [intOf]; omega⟩
          rw [HT.out]
          exact HS2.out
    · obtain rfl : k = 4 := by omega
      go_wp2_with fail
      go_end0
      have HE := HS1.out
      rw [encNk_four] at HE
      exact ⟨rfl, A', c', Ms.wrShut HE⟩
end Go.Proofs.Ytphmaimgpolaoaa
