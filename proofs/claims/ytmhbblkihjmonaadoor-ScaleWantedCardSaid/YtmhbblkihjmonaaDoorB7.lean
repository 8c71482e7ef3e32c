/- The walks that make lists: List of both sides; the reference's Span, And, Not, Or. -/
import Derived.Test.YtmhbblkihjmonaaDoorB6
import Derived.Deep.AppendLies
set_option linter.unusedVariables false
namespace Go.Proofs.YtmhbblkihjmonaaDoor
open Go.RowKit

theorem own_nil (W : World) (base : Nat) (e : TypeId) (size : Nat) : W.ownsRow base e size (.slice none 0 0) 0 [] := ⟨by simp, .inl ⟨rfl, rfl⟩⟩
theorem own_base {w : World} {base : Nat} {e : TypeId} {size n : Nat} {v : Value} {xs : List Value} (h : w.ownsRow base e size v n xs) (k : Nat) (hk : v.ownBlock = some k) : base ≤ k := by
  rcases h.2 with ⟨rfl, _⟩ | ⟨g, cap, cur, rfl, hb, _⟩
  · simp [Value.ownBlock] at hk
  · have : g = k := by simpa [Value.ownBlock] using hk
    omega
theorem own_reads {w : World} {base n : Nat} {e : TypeId} {v : Value} {xs : List Int} (h : w.ownsRow base e 1 v n (nums xs)) : ∃ A c, v = .slice A n c ∧ ReadsI w A n xs ∧ n ≤ c := by
  have hl : xs.length = n := by have := h.1; simp [nums] at this; exact this
  rcases Nat.eq_zero_or_pos n with h0 | h0
  · rcases h.2 with ⟨rfl, rfl⟩ | ⟨g, cap, cur, rfl, _⟩
    · exact ⟨none, 0, rfl, ⟨hl, by omega, fun hp => absurd hp (by omega)⟩, by omega⟩
    · exact ⟨_, cap, rfl, ⟨hl, by omega, fun hp => absurd hp (by omega)⟩, by omega⟩
  · obtain ⟨g, cap, rfl, _, _⟩ := h.form h0
    have hm : n ≤ 9223372036854775807 ∧ n ≤ cap := by
      rcases h.2 with ⟨_, h1⟩ | ⟨g', cap', cur, he, _, _, h1, h2, _⟩
      · omega
      · simp only [maxLen] at h2
        injection he with _ _ he
        omega
    refine ⟨_, cap, rfl, ⟨hl, hm.1, fun _ => ⟨_, rfl, fun j hj => h.cells (g := g) rfl j _ ?_⟩⟩, hm.2⟩
    simp [nums, List.getElem?_eq_getElem (show j < xs.length by omega), List.getD_eq_getElem?_getD]
theorem own_readsA {w : World} {base n m c : Nat} {e : TypeId} {A : Option Addr} {xs : List Int} (h : w.ownsRow base e 1 (.slice A m c) n (nums xs)) : ReadsI w A n xs := by
  obtain ⟨A', c', hv, hR, _⟩ := own_reads h
  injection hv with h1 _ _
  subst h1
  exact hR
theorem own_four {w : World} {base : Nat} {e : TypeId} {size n : Nat} {v : Value} {xs : List Value} (h : w.ownsRow base e size v n xs) {g : Nat} (hg : g < base) (a b c d : Value) :
    ((((w.setCell ⟨g, 0, none⟩ a).setCell ⟨g, 1, none⟩ b).setCell ⟨g, 2, none⟩ c).setCell ⟨g, 3, none⟩ d).ownsRow base e size v n xs :=
  ownsRow_setCell_below (ownsRow_setCell_below (ownsRow_setCell_below (ownsRow_setCell_below h hg a) hg b) hg c) hg d
theorem own_after {w w1 : World} {base : Nat} {e : TypeId} {size n : Nat} {v : Value} {xs : List Value} (h : w.ownsRow base e size v n xs) (hb : Below w.heap.size w w1) : w1.ownsRow base e size v n xs :=
  h.kept (row := none) ⟨hb.os, hb.tape, hb.output, hb.size, fun i hi _ => hb.block i hi⟩ (by cases v.ownBlock <;> simp)
theorem own_mono {w : World} {base base' : Nat} {e : TypeId} {size n : Nat} {v : Value} {xs : List Value} (h : w.ownsRow base e size v n xs) (hb : base' ≤ base) : w.ownsRow base' e size v n xs := by
  refine ⟨h.1, ?_⟩
  rcases h.2 with h2 | ⟨g, cap, cur, h1, h2, r⟩
  · exact .inl h2
  · exact .inr ⟨g, cap, cur, h1, Nat.le_trans hb h2, r⟩
theorem info_int : (Tryd.prog.info? 3).map (fun i => (i.zero, i.size, i.bytes)) = some (some (.int .i64 0), 1, 8) := by kernel_rfl

/-- append(v, y) of one number onto a row of the call's own. -/
theorem append_num {ops : Array Oper} {rest : List Oper} {o : Oper} {a : Act} {Q : Exit → Act → World → Prop} {W : World} (base : Nat) (hgd : o.guard = none) (s x : Operand)
    (ho : o.op = .call { callee := .builtin .append, args := #[s, x], argTypes := #[29, 29] })
    (v : Value) (xs : List Int) (y : Int) (hs : a.eval s = v) (hx : a.eval x = .slice (some ⟨W.heap.size, 0, none⟩) 1 1)
    (HO : W.ownsRow base 3 1 v xs.length (nums xs)) (hbase : base ≤ W.heap.size) (hl : xs.length + 1 ≤ 17592186044416)
    (h : ∀ v1 w1, w1.ownsRow base 3 1 v1 (xs ++ [y]).length (nums (xs ++ [y])) → W.grownBy w1 v.ownBlock → (∀ k, v.ownBlock = some k → base ≤ k) → wpList Tryd.prog ops Q rest (a.put o.dst v1) w1) :
    wpList Tryd.prog ops Q (o :: rest) a (W.alloc (.cells #[.int .i64 y] 3)) := by
  obtain ⟨i0, hi, hzz⟩ := Option.map_eq_some_iff.1 info_int
  simp only [Prod.mk.injEq] at hzz
  obtain ⟨hz0, hz1, hz2⟩ := hzz
  refine wpList_append_own (W.alloc (.cells #[.int .i64 y] 3)) hgd s x 29 ho base 3 i0 (.int .i64 0) 1 8 Tryd.underlying29 hi hz0 hz1 hz2 rfl (by omega) v xs.length (nums xs) hs (HO.alloc _) ⟨W.heap.size, 0, none⟩ 1 1 [.int .i64 y] hx rfl
    (World.news_of_block (cs := #[.int .i64 y]) (t := 3) (fr := (0, 0)) (heap_alloc_new W _)) (by simp [Value.oneCell']) (by simp only [maxLen]; omega) (by omega) (by simp; omega) ?_
  intro v1 w1 hown hg _
  exact h v1 w1 (by simpa [nums] using hown) (World.grownBy.trans (World.grownBy_alloc W _ _) hg) (own_base HO)

theorem lst_take_has (s : NS) (k : Nat) : ((List.range (k + 1)).filter fun i => s.getLsbD i) = ((List.range k).filter fun i => s.getLsbD i) ++ (if s.getLsbD k then [k] else []) := by
  rw [List.range_succ, List.filter_append]
  congr 1
  cases h : s.getLsbD k <;> simp [h]
def lstR (s : NS) (k : Nat) : List Int := ((List.range k).filter fun i => s.getLsbD i).map Int.ofNat
theorem lstR_succ_true (s : NS) (k : Nat) (h : s.getLsbD k = true) : lstR s (k + 1) = lstR s k ++ [(k : Int)] := by simp [lstR, lst_take_has, h]
theorem lstR_succ_false (s : NS) (k : Nat) (h : s.getLsbD k = false) : lstR s (k + 1) = lstR s k := by simp [lstR, lst_take_has, h]
theorem lstR_len (s : NS) (k : Nat) : (lstR s k).length ≤ k := by
  have := List.length_filter_le (fun i => s.getLsbD i) (List.range k)
  simpa [lstR] using this
theorem lstR_all (s : NS) : lstR s 256 = lst s := rfl

theorem Blk.own {w w1 : World} {g : Nat} {t : TypeId} {cs : Array Value} {v : Value} (h : Blk w g t cs) (hg : w.grownBy w1 v.ownBlock) (hb : ∀ k, v.ownBlock = some k → g + 1 ≤ k) : Blk w1 g t cs :=
  h.grown hg (fun e => by have := hb g e.symm; omega)
theorem below_own {B b : Nat} {w0 w w1 : World} {v : Value} (h : Below B w0 w) (hg : w.grownBy w1 v.ownBlock) (hB : B ≤ w.heap.size) (hb : ∀ k, v.ownBlock = some k → b ≤ k) (hBb : B ≤ b) : Below B w0 w1 :=
  h.grown hg hB (fun k hk => Nat.le_trans hBb (hb k hk))

set_option maxRecDepth 100000 in
set_option maxHeartbeats 1000000 in
theorem rlist_c (s : NS) (w : World) :
    Calls Tryd.prog 37 #[nsV s] w fun e w' => ∃ v, e = .returned v ∧ w'.ownsRow w.heap.size 3 1 v (lst s).length (nums (lst s)) ∧ Below w.heap.size w w' := by
  go_enter Tryd.func37, Tryd.ntmps37
  go_wp2_with fail
  go_loopw [3, 4] (fun l i wr => ∃ k : Nat, k ≤ 256 ∧ i = .int .i64 k ∧ Blk wr w.heap.size 24 (nsA s) ∧ wr.ownsRow (w.heap.size + 1) 3 1 l (lstR s k).length (nums (lstR s k)) ∧ Below w.heap.size w wr) (fun _ i _ => 256 - (intOf i).toNat)
  case atStart =>
    exact ⟨0, by omega, rfl, Blk.new' rfl, own_nil _ _ _ _, (Below.refl _ _).alloc (Nat.le_refl _) _⟩
  case round =>
    obtain ⟨k, hk, rfl, hB0, hown, hbl⟩ := hrel
    have H0 := Lib.hid hB0; have HO := Lib.hid hown; have HL := Lib.hid hbl
    obtain ⟨r1, r2, r3⟩ := hB0.rules
    clear hB0 hown hbl
    by_cases hlt : k < 256
    · go_wp2_with fail
      refine (rhas_c s k _).mono ?_
      rintro e w1 ⟨rfl, hb⟩
      have hh := hasS_nat s k
      have H1 := Lib.hid (H0.out.after hb)
      have HO1 := Lib.hid (own_after HO.out hb)
      have HL1 := Lib.hid (below_then HL.out HL.out.size hb)
      have hsz : w.heap.size + 1 ≤ w1.heap.size := by have := H1.out.lt; omega
      clear hb r1 r2 r3
      have hlen := lstR_len s k
      cases hv : s.getLsbD k with
      | false =>
        rw [hv] at hh
        have HE := Lib.hid (lstR_succ_false s k hv)
        clear hv
        go_wp2_with fail
        go_roundw
        case rel => exact ⟨k + 1, by omega, by go_num, H1.out, by rw [HE.out]; exact HO1.out, HL1.out⟩
        case measure => simp [intOf]; omega
      | true =>
        rw [hv] at hh
        have HE := Lib.hid (lstR_succ_true s k hv)
        clear hv
        go_wp2_with (at_builtin; go_must (refine append_num (w.heap.size + 1) rfl (.tmp 12) (.tmp 14) rfl _ (lstR s k) k rfl rfl HO1.out (by omega) (by omega) ?_; intro v1 w2 hown2 hg hbb))
        go_roundw
        case rel => exact ⟨k + 1, by omega, by go_num, H1.out.own hg hbb, by rw [HE.out]; exact hown2, below_own HL1.out hg (by omega) hbb (by omega)⟩
        case measure => simp [intOf]; omega
    · obtain rfl : k = 256 := by omega
      go_wp2
      go_ret
      exact ⟨_, rfl, own_mono HO.out (by omega), HL.out⟩

/-! ### a set that is gathered number by number -/
def accS (p : Nat → Bool) (k : Nat) : NS := setOf fun i => decide (i < k) && p i
theorem accS_zero (p : Nat → Bool) : accS p 0 = emptyS := ns_ext fun i hi => by unfold accS; rw [setOf_bit, empty_bit]; simp
theorem accS_true (p : Nat → Bool) (k : Nat) (h : p k = true) : accS p (k + 1) = withS (accS p k) k := ns_ext fun i hi => by
  unfold accS
  rw [setOf_bit, withS_bit, setOf_bit, decide_eq_true hi]
  simp only [Bool.true_and]
  by_cases e : i = k
  · subst e; simp [h]
  · have e2 : ¬ ((i : Int) = (k : Int)) := by omega
    rw [decide_eq_false e2, Bool.or_false]
    congr 1
    exact decide_eq_decide.2 (by omega)
theorem accS_false (p : Nat → Bool) (k : Nat) (h : p k = false) : accS p (k + 1) = accS p k := ns_ext fun i hi => by
  unfold accS
  rw [setOf_bit, setOf_bit]
  by_cases e : i = k
  · subst e; simp [h]
  · congr 2
    exact decide_eq_decide.2 (by omega)
theorem accS_all (p : Nat → Bool) (s : NS) (h : ∀ i, i < 256 → s.getLsbD i = p i) : accS p 256 = s := ns_ext fun i hi => by
  unfold accS; rw [setOf_bit, h i hi]; simp [hi]
theorem nsA_empty (p : Nat → Bool) : nsA (accS p 0) = #[.int .u64 0, .int .u64 0, .int .u64 0, .int .u64 0] := by simp [nsA, accS_zero, wn_empty]

set_option maxRecDepth 100000 in
set_option maxHeartbeats 1000000 in
theorem rspan_c (a b : Int) (w : World) :
    Calls Tryd.prog 28 #[.int .i64 a, .int .i64 b] w fun e w' => e = .returned (nsV (spanS a b)) ∧ Below w.heap.size w w' := by
  obtain ⟨p, hp⟩ : ∃ p : Nat → Bool, p = fun i : Nat => decide (a ≤ (i : Int)) && decide ((i : Int) ≤ b) := ⟨_, rfl⟩
  have he := accS_all p (spanS a b) (fun i hi => by rw [spanS_bit, hp]; simp [hi])
  have HEND := Lib.hid he
  have HP := Lib.hid hp
  clear he hp
  go_enter Tryd.func28, Tryd.ntmps28
  go_wp2_with fail
  go_loopw [6] (fun i wr => ∃ k : Nat, k ≤ 256 ∧ i = .int .i64 k ∧ Blk wr w.heap.size 24 #[.int .u64 0, .int .u64 0, .int .u64 0, .int .u64 0] ∧ Blk wr (w.heap.size + 1) 24 (nsA (accS p k)) ∧ Below w.heap.size w wr) (fun i _ => 256 - (intOf i).toNat)
  case atStart => exact ⟨0, by omega, rfl, (Blk.new' (by simp)).alloc _, by rw [nsA_empty]; exact Blk.new' (by simp), ((Below.refl _ _).alloc (by simp) _).alloc (by simp) _⟩
  case round =>
    obtain ⟨k, hk, rfl, hB0, hB1, hbl⟩ := hrel
    have H0 := Lib.hid hB0; have H1 := Lib.hid hB1; have HL := Lib.hid hbl
    obtain ⟨r1, r2, r3⟩ := hB0.rules
    obtain ⟨q1, q2, q3⟩ := hB1.rules
    clear hB0 hB1 hbl
    by_cases hlt : k < 256
    · clear r1 r2 r3
      by_cases ha : a ≤ (k : Int)
      · by_cases hb : (k : Int) ≤ b
        · have HE := Lib.hid (accS_true p k (by rw [HP.out]; simp [ha, hb]))
          go_wp2_with fail
          refine (with_c _ _ _).mono ?_
          rintro e w1 ⟨rfl, hbb⟩
          have HB0 := Lib.hid (H0.out.after hbb)
          have HB1 := Lib.hid (H1.out.after hbb)
          have HL2 := Lib.hid (below_then HL.out HL.out.size hbb)
          obtain ⟨s1, s2, s3⟩ := HB1.out.rules
          clear hbb q1 q2 q3
          go_wp2
          go_roundw
          case rel => exact ⟨k + 1, by omega, by go_num, HB0.out.far4 (by omega) _ _ _ _, by rw [HE.out]; exact HB1.out.four _ _ _ _, below_four HL2.out (by omega) _ _ _ _⟩
          case measure => simp [intOf]; omega
        · have HE := Lib.hid (accS_false p k (by rw [HP.out]; simp; omega))
          go_wp2_with fail
          go_roundw
          case rel => exact ⟨k + 1, by omega, by go_num, H0.out, by rw [HE.out]; exact H1.out, HL.out⟩
          case measure => simp [intOf]; omega
      · have HE := Lib.hid (accS_false p k (by rw [HP.out]; simp; omega))
        go_wp2_with fail
        go_roundw
        case rel => exact ⟨k + 1, by omega, by go_num, H0.out, by rw [HE.out]; exact H1.out, HL.out⟩
        case measure => simp [intOf]; omega
    · obtain rfl : k = 256 := by omega
      rw [HEND.out] at q1 H1
      go_wp2
      exact post_cell rfl rfl (H0.out.four _ _ _ _) Tryd.underlying24 rfl (by kernel_rfl) rfl ⟨rfl, below_four HL.out (by omega) _ _ _ _⟩

set_option maxRecDepth 100000 in
set_option maxHeartbeats 2000000 in
theorem rand_c (s t : NS) (w : World) :
    Calls Tryd.prog 18 #[nsV s, nsV t] w fun e w' => e = .returned (nsV (s &&& t)) ∧ Below w.heap.size w w' := by
  obtain ⟨p, hp⟩ : ∃ p : Nat → Bool, p = fun i => s.getLsbD i && t.getLsbD i := ⟨_, rfl⟩
  have he := accS_all p (s &&& t) (fun i hi => by rw [BitVec.getLsbD_and, hp])
  have HEND := Lib.hid he
  have HP := Lib.hid hp
  clear he hp
  go_enter Tryd.func18, Tryd.ntmps18
  go_wp2_with fail
  go_loopw [6] (fun i wr => ∃ k : Nat, k ≤ 256 ∧ i = .int .i64 k ∧ Blk wr w.heap.size 24 (nsA s) ∧ Blk wr (w.heap.size + 1) 24 (nsA t) ∧ Blk wr (w.heap.size + 2) 24 #[.int .u64 0, .int .u64 0, .int .u64 0, .int .u64 0] ∧ Blk wr (w.heap.size + 3) 24 (nsA (accS p k)) ∧ Below w.heap.size w wr) (fun i _ => 256 - (intOf i).toNat)
  case atStart => exact ⟨0, by omega, rfl, (((Blk.new' (by simp)).alloc _).alloc _).alloc _, ((Blk.new' (by simp)).alloc _).alloc _, (Blk.new' (by simp)).alloc _, by rw [nsA_empty]; exact Blk.new' (by simp), ((((Below.refl _ _).alloc (by simp) _).alloc (by simp) _).alloc (by simp; omega) _).alloc (by simp; omega) _⟩
  case round =>
    obtain ⟨k, hk, rfl, hA, hB, hB0, hB1, hbl⟩ := hrel
    have HA := Lib.hid hA; have HB := Lib.hid hB; have H0 := Lib.hid hB0; have H1 := Lib.hid hB1; have HL := Lib.hid hbl
    obtain ⟨r1, r2, r3⟩ := hB0.rules
    obtain ⟨q1, q2, q3⟩ := hB1.rules
    clear hB0 hB1 hbl
    by_cases hlt : k < 256
    · clear r1 r2 r3 q1 q2 q3
      obtain ⟨a1, a2, a3⟩ := hA.rules
      clear hA hB
      cases hs : s.getLsbD k with
      | false =>
        have HE := Lib.hid (accS_false p k (by rw [HP.out]; simp [hs]))
        have hh : hasS s k = false := by rw [hasS_nat]; exact hs
        clear hs
        go_wp2_with fail
        refine (rhas_c s k _).mono ?_
        rintro e w1 ⟨rfl, hbb⟩
        have HA1 := Lib.hid (HA.out.after hbb); have HB1 := Lib.hid (HB.out.after hbb); have H01 := Lib.hid (H0.out.after hbb); have H11 := Lib.hid (H1.out.after hbb)
        have HL1 := Lib.hid (below_then HL.out HL.out.size hbb)
        clear hbb a1 a2 a3
        go_wp2_with fail
        go_roundw
        case rel => exact ⟨k + 1, by omega, by go_num, HA1.out, HB1.out, H01.out, by rw [HE.out]; exact H11.out, HL1.out⟩
        case measure => simp [intOf]; omega
      | true =>
        have hh : hasS s k = true := by rw [hasS_nat]; exact hs
        cases ht : t.getLsbD k with
        | false =>
          have HE := Lib.hid (accS_false p k (by rw [HP.out]; simp [ht]))
          have hh2 : hasS t k = false := by rw [hasS_nat]; exact ht
          clear hs ht
          go_wp2_with fail
          refine (rhas_c s k _).mono ?_
          rintro e w1 ⟨rfl, hbb⟩
          have HA1 := Lib.hid (HA.out.after hbb); have HB1 := Lib.hid (HB.out.after hbb); have H01 := Lib.hid (H0.out.after hbb); have H11 := Lib.hid (H1.out.after hbb)
          have HL1 := Lib.hid (below_then HL.out HL.out.size hbb)
          obtain ⟨b1, b2, b3⟩ := HB1.out.rules
          clear hbb a1 a2 a3
          go_wp2_with fail
          refine (rhas_c t k _).mono ?_
          rintro e w2 ⟨rfl, hbb⟩
          have HA2 := Lib.hid (HA1.out.after hbb); have HB2 := Lib.hid (HB1.out.after hbb); have H02 := Lib.hid (H01.out.after hbb); have H12 := Lib.hid (H11.out.after hbb)
          have HL2 := Lib.hid (below_then HL1.out HL1.out.size hbb)
          clear hbb b1 b2 b3
          go_wp2_with fail
          go_roundw
          case rel => exact ⟨k + 1, by omega, by go_num, HA2.out, HB2.out, H02.out, by rw [HE.out]; exact H12.out, HL2.out⟩
          case measure => simp [intOf]; omega
        | true =>
          have HE := Lib.hid (accS_true p k (by rw [HP.out]; simp [hs, ht]))
          have hh2 : hasS t k = true := by rw [hasS_nat]; exact ht
          clear hs ht
          go_wp2_with fail
          refine (rhas_c s k _).mono ?_
          rintro e w1 ⟨rfl, hbb⟩
          have HA1 := Lib.hid (HA.out.after hbb); have HB1 := Lib.hid (HB.out.after hbb); have H01 := Lib.hid (H0.out.after hbb); have H11 := Lib.hid (H1.out.after hbb)
          have HL1 := Lib.hid (below_then HL.out HL.out.size hbb)
          obtain ⟨b1, b2, b3⟩ := HB1.out.rules
          clear hbb a1 a2 a3
          go_wp2_with fail
          refine (rhas_c t k _).mono ?_
          rintro e w2 ⟨rfl, hbb⟩
          have HA2 := Lib.hid (HA1.out.after hbb); have HB2 := Lib.hid (HB1.out.after hbb); have H02 := Lib.hid (H01.out.after hbb); have H12 := Lib.hid (H11.out.after hbb)
          have HL2 := Lib.hid (below_then HL1.out HL1.out.size hbb)
          obtain ⟨c1, c2, c3⟩ := H12.out.rules
          clear hbb b1 b2 b3
          go_wp2_with fail
          refine (with_c _ _ _).mono ?_
          rintro e w3 ⟨rfl, hbb⟩
          have HA3 := Lib.hid (HA2.out.after hbb); have HB3 := Lib.hid (HB2.out.after hbb); have H03 := Lib.hid (H02.out.after hbb); have H13 := Lib.hid (H12.out.after hbb)
          have HL3 := Lib.hid (below_then HL2.out HL2.out.size hbb)
          clear hbb c1 c2 c3
          obtain ⟨d1, d2, d3⟩ := H13.out.rules
          go_wp2
          go_roundw
          case rel => exact ⟨k + 1, by omega, by go_num, HA3.out.far4 (by omega) _ _ _ _, HB3.out.far4 (by omega) _ _ _ _, H03.out.far4 (by omega) _ _ _ _, by rw [HE.out]; exact H13.out.four _ _ _ _, below_four HL3.out (by omega) _ _ _ _⟩
          case measure => simp [intOf]; omega
    · obtain rfl : k = 256 := by omega
      clear hA hB
      rw [HEND.out] at q1 H1
      go_wp2
      exact post_cell rfl rfl (H0.out.four _ _ _ _) Tryd.underlying24 rfl (by kernel_rfl) rfl ⟨rfl, below_four HL.out (by omega) _ _ _ _⟩
set_option maxRecDepth 100000 in
set_option maxHeartbeats 2000000 in
theorem rnot_c (s t : NS) (w : World) :
    Calls Tryd.prog 22 #[nsV s, nsV t] w fun e w' => e = .returned (nsV (notS s t)) ∧ Below w.heap.size w w' := by
  obtain ⟨p, hp⟩ : ∃ p : Nat → Bool, p = fun i => s.getLsbD i && !t.getLsbD i := ⟨_, rfl⟩
  have he := accS_all p (notS s t) (fun i hi => by rw [notS_bit _ _ _ hi, hp])
  have HEND := Lib.hid he
  have HP := Lib.hid hp
  clear he hp
  go_enter Tryd.func22, Tryd.ntmps22
  go_wp2_with fail
  go_loopw [6] (fun i wr => ∃ k : Nat, k ≤ 256 ∧ i = .int .i64 k ∧ Blk wr w.heap.size 24 (nsA s) ∧ Blk wr (w.heap.size + 1) 24 (nsA t) ∧ Blk wr (w.heap.size + 2) 24 #[.int .u64 0, .int .u64 0, .int .u64 0, .int .u64 0] ∧ Blk wr (w.heap.size + 3) 24 (nsA (accS p k)) ∧ Below w.heap.size w wr) (fun i _ => 256 - (intOf i).toNat)
  case atStart => exact ⟨0, by omega, rfl, (((Blk.new' (by simp)).alloc _).alloc _).alloc _, ((Blk.new' (by simp)).alloc _).alloc _, (Blk.new' (by simp)).alloc _, by rw [nsA_empty]; exact Blk.new' (by simp), ((((Below.refl _ _).alloc (by simp) _).alloc (by simp) _).alloc (by simp; omega) _).alloc (by simp; omega) _⟩
  case round =>
    obtain ⟨k, hk, rfl, hA, hB, hB0, hB1, hbl⟩ := hrel
    have HA := Lib.hid hA; have HB := Lib.hid hB; have H0 := Lib.hid hB0; have H1 := Lib.hid hB1; have HL := Lib.hid hbl
    obtain ⟨r1, r2, r3⟩ := hB0.rules
    obtain ⟨q1, q2, q3⟩ := hB1.rules
    clear hB0 hB1 hbl
    by_cases hlt : k < 256
    · clear r1 r2 r3 q1 q2 q3
      obtain ⟨a1, a2, a3⟩ := hA.rules
      clear hA hB
      cases hs : s.getLsbD k with
      | false =>
        have HE := Lib.hid (accS_false p k (by rw [HP.out]; simp [hs]))
        have hh : hasS s k = false := by rw [hasS_nat]; exact hs
        clear hs
        go_wp2_with fail
        refine (rhas_c s k _).mono ?_
        rintro e w1 ⟨rfl, hbb⟩
        have HA1 := Lib.hid (HA.out.after hbb); have HB1 := Lib.hid (HB.out.after hbb); have H01 := Lib.hid (H0.out.after hbb); have H11 := Lib.hid (H1.out.after hbb)
        have HL1 := Lib.hid (below_then HL.out HL.out.size hbb)
        clear hbb a1 a2 a3
        go_wp2_with fail
        go_roundw
        case rel => exact ⟨k + 1, by omega, by go_num, HA1.out, HB1.out, H01.out, by rw [HE.out]; exact H11.out, HL1.out⟩
        case measure => simp [intOf]; omega
      | true =>
        have hh : hasS s k = true := by rw [hasS_nat]; exact hs
        cases ht : t.getLsbD k with
        | true =>
          have HE := Lib.hid (accS_false p k (by rw [HP.out]; simp [ht]))
          have hh2 : hasS t k = true := by rw [hasS_nat]; exact ht
          clear hs ht
          go_wp2_with fail
          refine (rhas_c s k _).mono ?_
          rintro e w1 ⟨rfl, hbb⟩
          have HA1 := Lib.hid (HA.out.after hbb); have HB1 := Lib.hid (HB.out.after hbb); have H01 := Lib.hid (H0.out.after hbb); have H11 := Lib.hid (H1.out.after hbb)
          have HL1 := Lib.hid (below_then HL.out HL.out.size hbb)
          obtain ⟨b1, b2, b3⟩ := HB1.out.rules
          clear hbb a1 a2 a3
          go_wp2_with fail
          refine (rhas_c t k _).mono ?_
          rintro e w2 ⟨rfl, hbb⟩
          have HA2 := Lib.hid (HA1.out.after hbb); have HB2 := Lib.hid (HB1.out.after hbb); have H02 := Lib.hid (H01.out.after hbb); have H12 := Lib.hid (H11.out.after hbb)
          have HL2 := Lib.hid (below_then HL1.out HL1.out.size hbb)
          clear hbb b1 b2 b3
          go_wp2_with fail
          go_roundw
          case rel => exact ⟨k + 1, by omega, by go_num, HA2.out, HB2.out, H02.out, by rw [HE.out]; exact H12.out, HL2.out⟩
          case measure => simp [intOf]; omega
        | false =>
          have HE := Lib.hid (accS_true p k (by rw [HP.out]; simp [hs, ht]))
          have hh2 : hasS t k = false := by rw [hasS_nat]; exact ht
          clear hs ht
          go_wp2_with fail
          refine (rhas_c s k _).mono ?_
          rintro e w1 ⟨rfl, hbb⟩
          have HA1 := Lib.hid (HA.out.after hbb); have HB1 := Lib.hid (HB.out.after hbb); have H01 := Lib.hid (H0.out.after hbb); have H11 := Lib.hid (H1.out.after hbb)
          have HL1 := Lib.hid (below_then HL.out HL.out.size hbb)
          obtain ⟨b1, b2, b3⟩ := HB1.out.rules
          clear hbb a1 a2 a3
          go_wp2_with fail
          refine (rhas_c t k _).mono ?_
          rintro e w2 ⟨rfl, hbb⟩
          have HA2 := Lib.hid (HA1.out.after hbb); have HB2 := Lib.hid (HB1.out.after hbb); have H02 := Lib.hid (H01.out.after hbb); have H12 := Lib.hid (H11.out.after hbb)
          have HL2 := Lib.hid (below_then HL1.out HL1.out.size hbb)
          obtain ⟨c1, c2, c3⟩ := H12.out.rules
          clear hbb b1 b2 b3
          go_wp2_with fail
          refine (with_c _ _ _).mono ?_
          rintro e w3 ⟨rfl, hbb⟩
          have HA3 := Lib.hid (HA2.out.after hbb); have HB3 := Lib.hid (HB2.out.after hbb); have H03 := Lib.hid (H02.out.after hbb); have H13 := Lib.hid (H12.out.after hbb)
          have HL3 := Lib.hid (below_then HL2.out HL2.out.size hbb)
          clear hbb c1 c2 c3
          obtain ⟨d1, d2, d3⟩ := H13.out.rules
          go_wp2
          go_roundw
          case rel => exact ⟨k + 1, by omega, by go_num, HA3.out.far4 (by omega) _ _ _ _, HB3.out.far4 (by omega) _ _ _ _, H03.out.far4 (by omega) _ _ _ _, by rw [HE.out]; exact H13.out.four _ _ _ _, below_four HL3.out (by omega) _ _ _ _⟩
          case measure => simp [intOf]; omega
    · obtain rfl : k = 256 := by omega
      clear hA hB
      rw [HEND.out] at q1 H1
      go_wp2
      exact post_cell rfl rfl (H0.out.four _ _ _ _) Tryd.underlying24 rfl (by kernel_rfl) rfl ⟨rfl, below_four HL.out (by omega) _ _ _ _⟩
end Go.Proofs.YtmhbblkihjmonaaDoor
