/- Code: alive. -/
import Derived.Test.YtphmaimgpolaoaaCb
set_option linter.unusedVariables false
namespace Go.Proofs.Ytphmaimgpolaoaa
open Go.RowKit Go.Sort

theorem wpList_build_g {P : Program} {ops : Array Oper} {rest : List Oper} {o : Oper} {a : Act} {W : World} {Q : Exit → Act → World → Prop} (hw : Region.wanted o (yielded ops a.tmps) = true) (dst : Option Tmp) (hdst : o.dst = dst) (ty : TypeId) (n : Nat) (cs : Array Value)
    (hrun : (execOp a.eval o).run P W = .ok (.value (.slice (some ⟨W.heap.size, 0, none⟩) n n)) (W.alloc (.cells cs ty)))
    (h : ∀ g W', Below W.heap.size W W' → Blk W' g ty cs → W.heap.size ≤ g → wpList P ops Q rest (a.put dst (.slice (some ⟨g, 0, none⟩) n n)) W') : wpList P ops Q (o :: rest) a W :=
  wpList_wanted hw fun _ hK => by
    subst hdst
    unfold Oper.wp
    rw [hrun, Oper.upon_value]
    exact hK _ _ (h _ _ ((Below.refl _ _).alloc (Nat.le_refl _) _) (Blk.new _ _ _) (Nat.le_refl _))
section
variable {w W W' : World} {ex : Nat → Prop} {l : List Own}
/-- What a callee made. -/
theorem Ms.made {o : Own} (h : Ms w ex l W) (hM : Ms W noB [o] W') : Ms w ex (l ++ [o]) W' :=
  h.add hM.below (hM.ok 0 o rfl) (fun k hk => (hM.lo 0 o rfl k hk).resolve_right (fun h => h))
theorem rowB_le {A : Option Addr} {c : Nat} {bs : List UInt8} (h : (rowB A c bs).ok W) : bs.length ≤ c := by
  have h' : W.ownsRow 0 5 1 (slB A c bs) bs.length (byt bs) := h
  rcases h'.2 with ⟨e, h0⟩ | ⟨g, cap, cur, e, _, _, h1, _⟩
  · omega
  · injection e with _ _ e3; omega
theorem rowB_block {A : Option Addr} {c : Nat} {bs : List UInt8} (a : Addr) (ha : A = some a) : (rowB A c bs).bl a.block := by
  subst ha; rfl
/-- A reader over bytes that the walk owns. -/
theorem Ms.rd (h : Ms w ex l W) (i j : Nat) {A : Option Addr} {c r p : Nat} {y f : Int} {bs : List UInt8} (hi : l[i]? = some (rowB A c bs)) (hj : l[j]? = some (blkR r A bs.length c p y f)) (hij : i ≠ j) (hp : p ≤ bs.length) (hs : bs.length ≤ 140737488355328) : RdOk W r A bs.length c p y f bs :=
  ⟨h.at_ j hj, (rowB_read (h.ok i _ hi)).1, hp, hs, rowB_le (h.ok i _ hi), fun _ a ha e => h.apart i j _ _ hi hj hij a.block (rowB_block a ha) e⟩
/-- A reader over bytes that came in. -/
theorem Ms.rdIn (h : Ms w noB l W) (j : Nat) {A : Option Addr} {n c r p : Nat} {y f : Int} {bs : List UInt8} (hj : l[j]? = some (blkR r A n c p y f)) (hR : ReadsB w A n bs) (hp : p ≤ n) (hs : n ≤ 140737488355328) (hc : n ≤ c) : RdOk W r A n c p y f bs :=
  ⟨h.at_ j hj, hR.below h.below, hp, hs, hc, fun hn a ha e => by
    obtain ⟨ad, e1, hcell⟩ := hR.2.2 hn
    rw [ha] at e1
    have h1 := block_lt_of_cell (hcell 0 hn)
    rw [add_block, ← Option.some.inj e1, e] at h1
    rcases h.lo j _ hj r rfl with h2 | h2
    · omega
    · exact h2⟩
end
theorem lits_int {w : World} {g : Nat} (x y : Int) (h : Blk w g 3 #[.int .i64 x, .int .i64 y]) : ReadsI w (some ⟨g, 0, none⟩) 2 [x, y] :=
  ⟨rfl, by omega, fun _ => ⟨_, rfl, fun j hj => by
    rw [add_plain, h.cell]
    have e : j = 0 ∨ j = 1 := by omega
    rcases e with rfl | rfl <;> rfl⟩⟩
theorem lit_str {w : World} {g : Nat} (s : ByteArray) (h : Blk w g 9 #[.string s]) : ReadsS w (some ⟨g, 0, none⟩) 1 [s] :=
  ⟨rfl, by omega, fun _ => ⟨_, rfl, fun j hj => by
    have e : j = 0 := by omega
    subst e
    rw [add_plain, h.cell]
    rfl⟩⟩
/-- A writer of nothing. -/
theorem Ms.wrNew {w W W' : World} {ex : Nat → Prop} {l : List Own} {g : Nat} (h : Ms w ex l W) (hb : Below W.heap.size W W') (hB : Blk W' g 26 #[.slice none 0 0]) (hg : W.heap.size ≤ g) : Ms w ex (l ++ [.wr g none 0 []]) W' :=
  h.add hb (o := .wr g none 0 []) ⟨hB, ⟨rfl, .inl ⟨rfl, rfl⟩⟩, by simp [Value.ownBlock]⟩ (fun k hk => by
    rcases hk with h1 | h1
    · omega
    · have h2 : (slB none 0 []).ownBlock = some k := h1
      cases h2)
abbrev abS : ByteArray := { data := #[97, 98] }
abbrev aliveB : List UInt8 := [1, 128, 1, 4, 97, 98]
theorem encI_m1 : encI (-1) = [1] := by
  unfold encI; rw [show Lib.zigzag (-1) = 1 by decide, Lib.uvarint_small (by decide)]; rfl
theorem encI_64 : encI 64 = [128, 1] := by
  unfold encI; rw [show Lib.zigzag 64 = 128 by decide, Lib.uvarint_big (by decide), show 128 / 128 = 1 by decide, Lib.uvarint_small (by decide)]; rfl
theorem encI_2 : encI 2 = [4] := by
  unfold encI; rw [show Lib.zigzag 2 = 4 by decide, Lib.uvarint_small (by decide)]; rfl
theorem alive_bytes : [] ++ encL [-1, 64] ++ encTs [abS] = aliveB := by
  rw [show ([-1, 64] : List Int) = [-1] ++ [64] by rfl, encL_append, encL_one, encL_one, encTs_one, encI_m1, encI_64]
  unfold encT
  rw [show ((abS.size : Nat) : Int) = 2 by rfl, encI_2]
  rfl
theorem pk_ret {w W : World} {r n c p q : Nat} {A : Option Addr} {v : Value} {y f : Int} (h : Ms w (fun k => k = r) [blkR r A n c p y f] W) : True := trivial
theorem ab_reads : intR aliveB 0 0 0 = (-1, 1, 0, 0) ∧ inR aliveB 1 0 0 0 64 = (64, 3, 0, 0) ∧ textR aliveB 3 0 0 9 = ([97, 98], 6, 0, 0) := by decide
set_option maxRecDepth 100000 in
set_option maxHeartbeats 4000000 in
theorem alive_c (w : World) : Calls Try.prog 13 #[] w fun e w' => e = .returned (.bool true) ∧ Below w.heap.size w w' := by
  have HS0 := Lib.hid (Ms.nil w noB)
  have HI := Lib.hid (show ∀ x ∈ ([-1, 64] : List Int), -9223372036854775808 ≤ x ∧ x ≤ 9223372036854775807 by decide)
  obtain ⟨b1, hb1⟩ : ∃ b1, b1 = ([] : List UInt8) ++ encL [-1, 64] := ⟨_, rfl⟩
  have HB1 := Lib.hid hb1
  have HB2 := Lib.hid (show b1 ++ encTs [abS] = aliveB by rw [hb1]; exact alive_bytes)
  have HL := Lib.hid (show b1.length + (encTs [abS]).length ≤ 140737488355000 by have := congrArg List.length HB2.out; rw [List.length_append] at this; simp at this; omega)
  clear hb1
  go_enter Try.func13, Try.ntmps13
  go_wp2_with (first
    | (refine wpList_alloc_b rfl (some 1) rfl 26 #[.slice none 0 0] (by kernel_rfl) ?_; intro g1 W1 hb hB hg; have HS1 := Lib.hid (HS0.out.wrNew hb hB hg); clear hb hB hg HS0)
    | (refine wpList_build_b rfl (some 6) rfl 3 2 #[.int .i64 (-1), .int .i64 64] (by kernel_rfl) ?_; intro g2 W2 hb hB hg; have HS2 := Lib.hid (HS1.out.new hb hB hg); clear hb hB hg HS1))
  refine (wInt_c g1 none 0 [] _ 2 2 [-1, 64] _ (HS2.out.ok 0 _ rfl) (lits_int _ _ (HS2.out.at_ 1 rfl)) HI.out (fun _ a ha => by cases ha; exact fun h1 => HS2.out.apart 0 1 _ _ rfl rfl (by decide) _ h1 rfl) (by simp)).mono ?_
  rintro e W3 ⟨rfl, A3, c3, hM⟩
  rw [← HB1.out] at hM
  have HS3 := Lib.hid (Ms.cut (l := [.wr g1 A3 c3 b1]) (k := [.blk g2 3 _]) (HS2.out.call 0 rfl hM))
  clear hM HS2
  go_wp2_with (refine wpList_build_b rfl (some 8) rfl 9 1 #[.string abS] (by kernel_rfl) ?_; intro g4 W4 hb hB hg; have HS4 := Lib.hid (HS3.out.new hb hB hg); clear hb hB hg HS3)
  refine (wText_c g1 A3 c3 b1 _ 1 1 [abS] _ (HS4.out.ok 0 _ rfl) (lit_str _ (HS4.out.at_ 1 rfl)) (by omega) (fun _ a ha => by cases ha; exact fun h1 => HS4.out.apart 0 1 _ _ rfl rfl (by decide) _ h1 rfl) HL.out).mono ?_
  rintro e W5 ⟨rfl, A5, c5, hM⟩
  rw [HB2.out] at hM
  have HS5 := Lib.hid (Ms.cut (l := [.wr g1 A5 c5 aliveB]) (k := [.blk g4 9 _]) (HS4.out.call 0 rfl hM))
  clear hM HS4
  go_wp2_with fail
  refine (wBytes_c g1 A5 c5 aliveB _ (HS5.out.ok 0 _ rfl) (by decide)).mono ?_
  rintro e W6 ⟨A6, c6, rfl, hM⟩
  have HS6 := Lib.hid (HS5.out.made hM)
  clear hM HS5
  go_wp2_with fail
  refine (new_c A6 6 c6 _).mono ?_
  rintro e W7 ⟨r, rfl, hM⟩
  have HS7 := Lib.hid (HS6.out.made hM)
  clear hM HS6
  go_wp2_with fail
  refine (wBytes_c g1 A5 c5 aliveB _ (HS7.out.ok 0 _ rfl) (by decide)).mono ?_
  rintro e W8 ⟨A8, c8, rfl, hM⟩
  have HS8 := Lib.hid (HS7.out.made hM)
  clear hM HS7
  go_wp2_with (refine wpList_build_g (by kernel_rfl) (some 16) rfl 5 6 #[.int .u8 1, .int .u8 128, .int .u8 1, .int .u8 4, .int .u8 97, .int .u8 98] (by kernel_rfl) ?_; intro g9 W9 hb hB hg; have HS9 := Lib.hid (HS8.out.newRow (n := 6) (size := 1) hb hB hg rfl (by simp [maxLen])); clear hb hB hg HS8)
  have HR1 := Lib.hid (rowB_read (HS9.out.ok 3 _ rfl)).1
  have HR2 := Lib.hid (rowB_read (A := some ⟨g9, 0, none⟩) (c := 6) (bs := aliveB) (HS9.out.ok 4 _ rfl)).1
  refine (same_c A8 6 c8 aliveB (some ⟨g9, 0, none⟩) 6 6 aliveB _ HR1.out HR2.out).mono ?_
  rintro e w' ⟨rfl, rfl⟩
  clear HR1 HR2
  have hde : decide (aliveB = aliveB) = true := by simp
  go_wp2_with fail
  refine (rInt_c r A6 6 c6 0 0 0 aliveB _ (HS9.out.rd 1 2 rfl rfl (by decide) (by decide) (by decide)) (-1) 1 0 0 ab_reads.1).mono ?_
  rintro e Wa ⟨rfl, hM⟩
  have HSa := Lib.hid (HS9.out.call 2 rfl hM)
  clear hM HS9
  go_wp2_with fail
  refine (rIn_c r A6 6 c6 1 0 0 0 64 aliveB _ (HSa.out.rd 1 2 rfl rfl (by decide) (by decide) (by decide)) 64 3 0 0 ab_reads.2.1).mono ?_
  rintro e Wb ⟨rfl, hM⟩
  have HSb := Lib.hid (HSa.out.call 2 rfl hM)
  clear hM HSa
  go_wp2_with fail
  refine (rText_c r A6 6 c6 3 0 0 9 aliveB _ (HSb.out.rd 1 2 rfl rfl (by decide) (by decide) (by decide)) [97, 98] 6 0 0 ab_reads.2.2).mono ?_
  rintro e Wc ⟨rfl, hM⟩
  have HSc := Lib.hid (HSb.out.call 2 rfl hM)
  clear hM HSb
  have hst : strOf [97, 98] = abS := rfl
  rw [hst]
  go_wp2_with fail
  refine (rEnd_c r A6 6 c6 6 0 0 aliveB _ (HSc.out.rd 1 2 rfl rfl (by decide) (by decide) (by decide))).mono ?_
  rintro e Wd ⟨rfl, hM⟩
  have HSd := Lib.hid (HSc.out.call 2 rfl hM)
  clear hM HSc
  go_wp2_with (refine wpList_eql (by kernel_rfl) 30 _ _ _ rfl rfl rfl (by kernel_rfl) _ (eqFlt_run _ _ 0 0 _) ?_)
  go_ret
  exact ⟨rfl, HSd.out.below⟩
end Go.Proofs.Ytphmaimgpolaoaa
