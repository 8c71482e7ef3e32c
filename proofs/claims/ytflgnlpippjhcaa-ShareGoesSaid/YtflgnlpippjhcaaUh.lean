/- Cut by program (cut_tpl.py) out of my templates XCc. -/
import Derived.Test.YtflgnlpippjhcaaUr

/- Code: alive. -/
set_option linter.unusedVariables false
set_option maxRecDepth 100000
namespace Go.Proofs.Ytflgnlpippjhcaa
open Go.RowKit Go.Sort

theorem wpList_build_g {P : Program} {ops : Array Oper} {rest : List Oper} {o : Oper} {a : Act} {W : World} {Q : Exit → Act → World → Prop} (hw : Region.wanted o (yielded ops a.tmps) = true) (dst : Option Tmp) (hdst : o.dst = dst) (ty : TypeId) (n : Nat) (cs : Array Value)
    (hrun : (execOp a.eval o).run P W = .ok (.value (.slice (some ⟨W.heap.size, 0, none⟩) n n)) (W.alloc (.cells cs ty)))
    (h : ∀ g W', Below W.heap.size W W' → Blk W' g ty cs → W.heap.size ≤ g → wpList P ops Q rest (a.put dst (.slice (some ⟨g, 0, none⟩) n n)) W') : wpList P ops Q (o :: rest) a W :=
  wpList_wanted hw fun _ hK => by
    subst hdst
    unfold Oper.wp
    rw [hrun, Oper.upon_value]
    exact hK _ _ (h _ _ ((Below.refl _ _).alloc (Nat.le_refl _) _) (Blk.new _ _ _) (Nat.le_refl _))
section
variable {w W W' : World} {ex : Nat → Prop} {l : List Own}
theorem rowB_le {A : Option Addr} {c : Nat} {bs : List UInt8} (h : (rowB A c bs).ok W) : bs.length ≤ c := by
  have h' : W.ownsRow 0 5 1 (slB A c bs) bs.length (byt bs) := h
  rcases h'.2 with ⟨e, h0⟩ | ⟨g, cap, cur, e, _, _, h1, _⟩
  · omega
  · injection e with _ _ e3; omega
theorem rowB_block {A : Option Addr} {c : Nat} {bs : List UInt8} (a : Addr) (ha : A = some a) : (rowB A c bs).bl a.block := by
  subst ha; rfl
/-- A reader over bytes that the walk owns. -/
theorem Ms.rd (h : Ms w ex l W) (i j : Nat) {A : Option Addr} {c r p : Nat} {y f : Int} {bs : List UInt8} (hi : l[i]? = some (rowB A c bs)) (hj : l[j]? = some (blkR r A bs.length c p y f)) (hij : i ≠ j) (hp : p ≤ bs.length) (hs : bs.length ≤ 140737488355328) : RdOk W r A bs.length c p y f bs :=
  ⟨h.at_ j hj, (rowB_read (h.ok i _ hi)).1, hp, hs, rowB_le (h.ok i _ hi), fun _ a ha e => h.apart i j _ _ hi hj hij a.block (rowB_block a ha) e⟩
/-- A reader over bytes that came in. -/
theorem Ms.rdIn (h : Ms w noB l W) (j : Nat) {A : Option Addr} {n c r p : Nat} {y f : Int} {bs : List UInt8} (hj : l[j]? = some (blkR r A n c p y f)) (hR : ReadsB w A n bs) (hp : p ≤ n) (hs : n ≤ 140737488355328) (hc : n ≤ c) : RdOk W r A n c p y f bs :=
  ⟨h.at_ j hj, hR.below h.below, hp, hs, hc, fun hn a ha e => by
    obtain ⟨ad, e1, hcell⟩ := hR.2.2 hn
    rw [ha] at e1
    have h1 := block_lt_of_cell (hcell 0 hn)
    rw [add_block, ← Option.some.inj e1, e] at h1
    rcases h.lo j _ hj r rfl with h2 | h2
    · omega
    · exact h2⟩
end
theorem lits_int {w : World} {g : Nat} (x y : Int) (h : Blk w g 3 #[.int .i64 x, .int .i64 y]) : ReadsI w (some ⟨g, 0, none⟩) 2 [x, y] :=
  ⟨rfl, by omega, fun _ => ⟨_, rfl, fun j hj => by
    rw [add_plain, h.cell]
    have e : j = 0 ∨ j = 1 := by omega
    rcases e with rfl | rfl <;> rfl⟩⟩
theorem lit_str {w : World} {g : Nat} (s : ByteArray) (h : Blk w g 9 #[.string s]) : ReadsS w (some ⟨g, 0, none⟩) 1 [s] :=
  ⟨rfl, by omega, fun _ => ⟨_, rfl, fun j hj => by
    have e : j = 0 := by omega
    subst e
    rw [add_plain, h.cell]
    rfl⟩⟩
/-- A writer of nothing. -/
theorem Ms.wrNew {w W W' : World} {ex : Nat → Prop} {l : List Own} {g : Nat} (h : Ms w ex l W) (hb : Below W.heap.size W W') (hB : Blk W' g 86 #[.slice none 0 0]) (hg : W.heap.size ≤ g) : Ms w ex (l ++ [.wr g none 0 []]) W' :=
  h.add hb (o := .wr g none 0 []) ⟨hB, ⟨rfl, .inl ⟨rfl, rfl⟩⟩, by simp [Value.ownBlock]⟩ (fun k hk => by
    rcases hk with h1 | h1
    · omega
    · have h2 : (slB none 0 []).ownBlock = some k := h1
      cases h2)
abbrev abS : ByteArray := { data := #[97, 98] }
abbrev aliveB : List UInt8 := [1, 128, 1, 4, 97, 98]
theorem encI_m1 : encI (-1) = [1] := by
  unfold encI; rw [show Lib.zigzag (-1) = 1 by decide, Lib.uvarint_small (by decide)]; rfl
theorem encI_64 : encI 64 = [128, 1] := by
  unfold encI; rw [show Lib.zigzag 64 = 128 by decide, Lib.uvarint_big (by decide), show 128 / 128 = 1 by decide, Lib.uvarint_small (by decide)]; rfl
theorem encI_2 : encI 2 = [4] := by
  unfold encI; rw [show Lib.zigzag 2 = 4 by decide, Lib.uvarint_small (by decide)]; rfl
theorem alive_bytes : [] ++ encL [-1, 64] ++ encTs [abS] = aliveB := by
  rw [show ([-1, 64] : List Int) = [-1] ++ [64] by rfl, encL_append, encL_one, encL_one, encTs_one, encI_m1, encI_64]
  unfold encT
  rw [show ((abS.size : Nat) : Int) = 2 by rfl, encI_2]
  rfl
theorem pk_ret {w W : World} {r n c p q : Nat} {A : Option Addr} {v : Value} {y f : Int} (h : Ms w (fun k => k = r) [blkR r A n c p y f] W) : True := trivial
theorem ab_reads : intR aliveB 0 0 0 = (-1, 1, 0, 0) ∧ inR aliveB 1 0 0 0 64 = (64, 3, 0, 0) ∧ textR aliveB 3 0 0 9 = ([97, 98], 6, 0, 0) := by decide
end Go.Proofs.Ytflgnlpippjhcaa

