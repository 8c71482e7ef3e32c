/- Share: Load. -/
import Derived.Test.YtflgnlpippjhcaaUl
import Derived.Test.YtflgnlpippjhcaaUt
import Derived.Deep.RegionHeld3
set_option linter.unusedVariables false
set_option maxRecDepth 100000
namespace Go.Proofs.Ytflgnlpippjhcaa
open Go.RowKit Go.Sort Go.Maps

theorem Ms.putE {w W W2 : World} {ex : Nat → Prop} {l : List Own} (h : Ms w ex l W) (j : Nat) {b : Nat} {L L' : Led} (hj : l[j]? = some (.mp b L)) (hg : W.drew.grownBy W2 (some b)) (ho : W2.ownsMap Try.prog 9 accE b L'.length (ledD L')) : Ms w ex (l.set j (.mp b L')) W2 := by
  refine (h.drewN 1).mut j hj ⟨hg.os, hg.tape, hg.output, hg.size, fun k hk hne => hg.block k hk (fun e => hne (show k = b from Option.some.inj e))⟩ ?_ (fun k hk => .inl hk)
  exact ho
theorem less_eq : ∀ (x y : List UInt8), Op.bytesLess x y = decide (x < y)
  | [], [] => by simp [Op.bytesLess]
  | [], _ :: _ => by simp [Op.bytesLess]
  | _ :: _, [] => by simp [Op.bytesLess]
  | a :: r, b :: s => by
    unfold Op.bytesLess
    rw [less_eq r s]
    rw [Bool.eq_iff_iff, decide_eq_true_eq, List.cons_lt_cons_iff]
    simp
theorem nm_less {s last : Nm} (h : s < last) : Op.bytesLess (strOf s).toList last = true := by rw [strOf_toList, less_eq]; exact decide_eq_true h
theorem nm_same {s last : Nm} (h : s = last) : ((strOf s).toList == last) = true := by rw [strOf_toList]; exact beq_iff_eq.2 h
theorem nm_more {s last : Nm} (h : ¬ s ≤ last) : Op.bytesLess (strOf s).toList last = false ∧ ((strOf s).toList == last) = false := by
  have h1 := nm_not_le h
  rw [strOf_toList, less_eq]
  exact ⟨decide_eq_false (nm_asymm h1), beq_eq_false_iff_ne.2 (nm_ne h1).symm⟩
/-- What Load answers. -/
def LoadP (w : World) (half : Int) (bs : List UInt8) (e : Ending) (W : World) : Prop :=
  (∃ L g b, loadB bs = some L ∧ e = .returned (.tuple #[.pointer (some ⟨g, 0, none⟩), .int .i64 0]) ∧ Ms w noB [ldP g b half L] W) ∨
  (loadB bs = none ∧ e = .returned (.tuple #[.pointer none, .int .i64 3]) ∧ Below w.heap.size w W)
/-- Behind the making of an entry two blocks that lie apart read as before. -/
theorem Ms.grown1 {w W W1 : World} {ex : Nat → Prop} {l : List Own} (h : Ms w ex l W) (j : Nat) {b : Nat} {L : Led} (hj : l[j]? = some (.mp b L)) (hg : W.grownBy W1 (some b)) (i k : Nat) {g g2 : Nat} {T T2 : TypeId} {cs cs2 : Array Value} (hi : l[i]? = some (.blk g T cs)) (hk : l[k]? = some (.blk g2 T2 cs2)) (hij : i ≠ j) (hkj : k ≠ j) :
    (∀ o, W1.cell? ⟨g, o, none⟩ = cs[o]?) ∧ (∀ o, W1.cell? ⟨g2, o, none⟩ = cs2[o]?) := by
  have key : ∀ (i : Nat) {g : Nat} {T : TypeId} {cs : Array Value}, l[i]? = some (.blk g T cs) → i ≠ j → ∀ o, W1.cell? ⟨g, o, none⟩ = cs[o]? := fun i {g T cs} hi hij => by
    have h1 : Blk W g T cs := h.at_ i hi
    have hne : g ≠ b := fun e => h.apart i j _ _ hi hj hij g rfl (show g = b from e)
    have h2 : Blk W1 g T cs := (hg.block g (Array.getElem?_eq_some_iff.1 h1).1 (fun e => hne (Option.some.inj e))).trans h1
    exact h2.rules.1
  exact ⟨key i hi hij, key k hk hkj⟩
theorem load_n (half : Int) (A : Option Addr) (n c : Nat) (w : World) (h : half < 1 ∨ 1000000 < half) : Calls Try.prog 27 #[.int .i64 half, .slice A n c] w fun e w' => e = .returned (.tuple #[.pointer none, .int .i64 1]) ∧ Below w.heap.size w w' := by
  have HH := Lib.hid h
  clear h
  go_enter Try.func27, Try.ntmps27
  have HS0 := Lib.hid (Ms.nil w noB)
  go_wp2_with fail
  refine (new_n half _ HH.out).mono ?_
  rintro e W1 ⟨rfl, hb⟩
  have HS1 := Lib.hid (HS0.out.after hb)
  clear hb HS0
  go_wp2_with fail
  go_ret2
  exact ⟨rfl, HS1.out.below⟩
set_option maxHeartbeats 16000000 in
theorem load_y (half : Int) (A : Option Addr) (n c : Nat) (bs : List UInt8) (w : World) (hh : 1 ≤ half ∧ half ≤ 1000000) (hR : ReadsB w A n bs) (hs : n ≤ 140737488355328) (hc : n ≤ c) :
    Calls Try.prog 27 #[.int .i64 half, .slice A n c] w (LoadP w half bs) := by
  have HH := Lib.hid hh
  have HRd := Lib.hid hR
  have HBL := Lib.hid hR.1
  have HN := Lib.hid (And.intro hs hc)
  clear hh hR hs hc
  go_enter Try.func27, Try.ntmps27
  have HS0 := Lib.hid (Ms.nil w noB)
  go_wp2_with fail
  refine (new_y half _ HH.out.1 HH.out.2).mono ?_
  rintro e W1 ⟨g, b, rfl, hM⟩
  have HS1 := Lib.hid (HS0.out.made hM)
  clear hM HS0
  have HU := Lib.hid (Ms.unall (l := []) (k := ldO g b half []) HS1.out)
  clear HS1
  have HS1 := HU
  clear HU
  obtain ⟨v0, p0, y0, f0, hN0⟩ : ∃ v p y f, inR bs 0 0 0 0 1024 = (v, p, y, f) := ⟨_, _, _, _, rfl⟩
  have hb0 := inR_le (Nat.zero_le bs.length) (by omega) hN0
  obtain ⟨N, hNv⟩ := Int.eq_ofNat_of_zero_le hb0.2.1
  subst hNv
  have HN0 := Lib.hid hN0
  have HS_ := Lib.hid (show loadK bs N (p0, y0, f0) [] [] = loadS bs by unfold loadS numR; rw [hN0]; rfl)
  have HP0 := Lib.hid (show p0 ≤ n by rw [← HBL.out]; exact hb0.1)
  have HNB := Lib.hid (show N ≤ 1024 by have := hb0.2.2; omega)
  clear hN0 hb0
  go_wp2_with fail
  refine (new_c A n c _).mono ?_
  rintro e W2 ⟨r, rfl, hM⟩
  have HS2 := Lib.hid (HS1.out.made hM)
  clear hM HS1
  go_wp2_with fail
  refine (rIn_c r A n c 0 0 0 0 1024 bs _ (HS2.out.rdIn 2 rfl HRd.out (Nat.zero_le _) HN.out.1 HN.out.2) (N : Int) p0 y0 f0 HN0.out).mono ?_
  rintro e W3 ⟨rfl, hM⟩
  have HS3 := Lib.hid (HS2.out.call 2 rfl hM)
  clear hM HS2
  go_wp2_with fail
  go_loopw [9, 10] (fun l k wr => ∃ (kk p : Nat) (y f : Int) (last : Nm) (L : Led), k = .int .i64 (kk : Nat) ∧ l = str last ∧ p ≤ n ∧ kk ≤ 1024 ∧ Hid (LdI half L last kk) ∧ Hid (loadK bs kk (p, y, f) last L = loadS bs) ∧ Hid (Ms w noB [.blk g lgT (lgA half b), .mp b L, blkR r A n c p y f] wr)) (fun _ k _ => (intOf k).toNat)
  case atStart => exact ⟨N, p0, y0, f0, [], [], rfl, rfl, HP0.out, HNB.out, Lib.hid (ldI_new HH.out HNB.out), HS_, HS3⟩
  case round =>
    obtain ⟨kk, p, y, f, last, L, rfl, rfl, hp, hk1, HI, HK, HS4⟩ := hrel
    have HP := Lib.hid hp
    clear hp
    by_cases hz : kk = 0
    · subst hz
      obtain ⟨y1, f1, he⟩ : ∃ y1 f1, endR p n y f = (y1, f1) := ⟨_, _, rfl⟩
      have HE := Lib.hid he
      have HK2 := Lib.hid (show loadS bs = some (L, (p, y, f)) by rw [← HK.out]; rfl)
      have HL := Lib.hid (show loadB bs = if wellB y1 f1 = true then some L else none by unfold loadB; rw [HK2.out]; simp only; unfold endOk; rw [HBL.out, HE.out])
      have HEQ := Lib.hid (fun W : World => eqFlt_run y1 f1 0 0 W)
      clear he
      cases hw : wellB y1 f1
      · have HEQ2 := Lib.hid (fun W : World => show (Op.equalIn 10000 95 (.agg (fltA y1 f1)) (.agg (fltA 0 0))).run Try.prog W = .ok false W from by rw [HEQ.out]; exact congrArg (fun q => Result.ok q W) hw)
        rw [hw] at HL
        clear hw
        go_wp2_with fail
        refine (rEnd_c r A n c p y f bs _ (HS4.out.rdIn 2 rfl HRd.out HP.out HN.out.1 HN.out.2)).mono ?_
        rintro e W5 ⟨rfl, hM⟩
        have HS5 := Lib.hid (HS4.out.call 2 rfl hM)
        clear hM HS4
        rw [HE.out] at HS5 ⊢
        go_wp2_with (have hq := HS5; clear hq; refine wpList_neq (by kernel_rfl) 95 _ _ _ rfl rfl rfl (by kernel_rfl) false (HEQ2.out _) ?_)
        go_wp2_with fail
        go_ret2
        exact .inr ⟨by rw [HL.out]; rfl, rfl, HS5.out.below⟩
      · have HEQ2 := Lib.hid (fun W : World => show (Op.equalIn 10000 95 (.agg (fltA y1 f1)) (.agg (fltA 0 0))).run Try.prog W = .ok true W from by rw [HEQ.out]; exact congrArg (fun q => Result.ok q W) hw)
        rw [hw] at HL
        clear hw
        go_wp2_with fail
        refine (rEnd_c r A n c p y f bs _ (HS4.out.rdIn 2 rfl HRd.out HP.out HN.out.1 HN.out.2)).mono ?_
        rintro e W5 ⟨rfl, hM⟩
        have HS5 := Lib.hid (HS4.out.call 2 rfl hM)
        clear hM HS4
        rw [HE.out] at HS5 ⊢
        go_wp2_with (have hq := HS5; clear hq; refine wpList_neq (by kernel_rfl) 95 _ _ _ rfl rfl rfl (by kernel_rfl) true (HEQ2.out _) ?_)
        go_wp2_with fail
        go_ret2
        exact .inl ⟨L, g, b, by rw [HL.out]; rfl, rfl, (HS5.out.selL [0, 1] (ldO g b half L) rfl (by decide)).all⟩
    · obtain ⟨j, rfl⟩ : ∃ j, kk = j + 1 := ⟨kk - 1, by omega⟩
      clear hz
      have hjI : (0 : Int) < ((j + 1 : Nat) : Int) := by omega
      obtain ⟨s, p1, y1, f1, ht1⟩ : ∃ s p' y' f', nameR bs (p, y, f) = (s, (p', y', f')) := ⟨_, _, _, _, rfl⟩
      obtain ⟨h, p2, y2, f2, ht2⟩ : ∃ s p' y' f', hasR bs (p1, y1, f1) = (s, (p', y', f')) := ⟨_, _, _, _, rfl⟩
      obtain ⟨t, p3, y3, f3, ht3⟩ : ∃ s p' y' f', atR bs (p2, y2, f2) = (s, (p', y', f')) := ⟨_, _, _, _, rfl⟩
      have hr : recR bs (p, y, f) = ((s, ⟨h, t⟩), (p3, y3, f3)) := by unfold recR; rw [ht1]; simp only; rw [ht2]; simp only; rw [ht3]
      have q1 := textR_le (by rw [HBL.out]; exact HP.out) ht1
      have q2 := inR_le q1.1 (by omega) ht2
      have q3 := inR_le q2.1 (by omega) ht3
      rw [HBL.out] at q1 q2 q3
      have HQ1 := Lib.hid q1
      have HQ2 := Lib.hid q2
      have HQ3 := Lib.hid q3
      have HT1 := Lib.hid (show textR bs p y f 16 = (s, p1, y1, f1) from ht1)
      have HT2 := Lib.hid (show inR bs p1 y1 f1 0 1152921504606846976 = (h, p2, y2, f2) from ht2)
      have HT3 := Lib.hid (show inR bs p2 y2 f2 0 1099511627776 = (t, p3, y3, f3) from ht3)
      have HK2 := Lib.hid HK.out
      have HK3 := Lib.hid (show (if s ≤ last then none else loadK bs j (p3, y3, f3) s (L ++ [(s, ⟨h, t⟩)])) = loadS bs by have := HK2.out; unfold loadK at this; rw [hr] at this; exact this)
      clear ht1 ht2 ht3 hr q1 q2 q3 HK HK2
      by_cases c1 : s ≤ last
      · have HL := Lib.hid (show loadB bs = none by unfold loadB; rw [← HK3.out, if_pos c1])
        rcases (nm_lt_or s last) with hlt | hlt | hlt
        · have hb1 := nm_less hlt
          clear hlt c1
          go_wp2_with fail
          refine (rText_c r A n c p y f 16 bs _ (HS4.out.rdIn 2 rfl HRd.out HP.out HN.out.1 HN.out.2) s p1 y1 f1 HT1.out).mono ?_
          rintro e W5 ⟨rfl, hM⟩
          have HS5 := Lib.hid (HS4.out.call 2 rfl hM)
          clear hM HS4
          go_wp2_with fail
          refine (rIn_c r A n c p1 y1 f1 0 1152921504606846976 bs _ (HS5.out.rdIn 2 rfl HRd.out HQ1.out.1 HN.out.1 HN.out.2) h p2 y2 f2 HT2.out).mono ?_
          rintro e W6 ⟨rfl, hM⟩
          have HS6 := Lib.hid (HS5.out.call 2 rfl hM)
          clear hM HS5
          go_wp2_with fail
          refine (rIn_c r A n c p2 y2 f2 0 1099511627776 bs _ (HS6.out.rdIn 2 rfl HRd.out HQ2.out.1 HN.out.1 HN.out.2) t p3 y3 f3 HT3.out).mono ?_
          rintro e W7 ⟨rfl, hM⟩
          have HS7 := Lib.hid (HS6.out.call 2 rfl hM)
          clear hM HS6
          go_wp2_with (first
            | (have hq := HS7; clear hq; (with_reducible refine atAlloc ?_); refine wpList_alloc_b rfl (some 12) rfl 66 (#[.int .i64 0, .int .i64 0]) (by kernel_rfl) ?_; intro g8 W8 hb hB hg; have HS8 := Lib.hid (HS7.out.new hb hB hg); clear hb hB hg HS7)
            | (have hq := HS8; clear hq; (with_reducible refine atStore ?_); refine wpList_store_at rfl 66 _ _ rfl (HS8.out.at_ 3 rfl) (.agg #[.int .i64 h, .int .i64 t]) rfl rfl (by kernel_rfl) (Nat.le_of_ble_eq_true rfl) (by kernel_rfl) ?_; intro W9 hB hP; have HS9 := Lib.hid (HS8.out.put 3 rfl (new := #[.int .i64 h, .int .i64 t]) hB hP); clear hB hP HS8))
          go_ret2
          exact .inr ⟨HL.out, rfl, HS9.out.below⟩
        · have hb1 := nm_same hlt
          clear hlt c1
          go_wp2_with fail
          refine (rText_c r A n c p y f 16 bs _ (HS4.out.rdIn 2 rfl HRd.out HP.out HN.out.1 HN.out.2) s p1 y1 f1 HT1.out).mono ?_
          rintro e W5 ⟨rfl, hM⟩
          have HS5 := Lib.hid (HS4.out.call 2 rfl hM)
          clear hM HS4
          go_wp2_with fail
          refine (rIn_c r A n c p1 y1 f1 0 1152921504606846976 bs _ (HS5.out.rdIn 2 rfl HRd.out HQ1.out.1 HN.out.1 HN.out.2) h p2 y2 f2 HT2.out).mono ?_
          rintro e W6 ⟨rfl, hM⟩
          have HS6 := Lib.hid (HS5.out.call 2 rfl hM)
          clear hM HS5
          go_wp2_with fail
          refine (rIn_c r A n c p2 y2 f2 0 1099511627776 bs _ (HS6.out.rdIn 2 rfl HRd.out HQ2.out.1 HN.out.1 HN.out.2) t p3 y3 f3 HT3.out).mono ?_
          rintro e W7 ⟨rfl, hM⟩
          have HS7 := Lib.hid (HS6.out.call 2 rfl hM)
          clear hM HS6
          go_wp2_with (first
            | (have hq := HS7; clear hq; (with_reducible refine atAlloc ?_); refine wpList_alloc_b rfl (some 12) rfl 66 (#[.int .i64 0, .int .i64 0]) (by kernel_rfl) ?_; intro g8 W8 hb hB hg; have HS8 := Lib.hid (HS7.out.new hb hB hg); clear hb hB hg HS7)
            | (have hq := HS8; clear hq; (with_reducible refine atStore ?_); refine wpList_store_at rfl 66 _ _ rfl (HS8.out.at_ 3 rfl) (.agg #[.int .i64 h, .int .i64 t]) rfl rfl (by kernel_rfl) (Nat.le_of_ble_eq_true rfl) (by kernel_rfl) ?_; intro W9 hB hP; have HS9 := Lib.hid (HS8.out.put 3 rfl (new := #[.int .i64 h, .int .i64 t]) hB hP); clear hB hP HS8))
          go_ret2
          exact .inr ⟨HL.out, rfl, HS9.out.below⟩
        · exact absurd c1 (List.not_le.2 hlt)
      · have HK4 := Lib.hid (show loadK bs j (p3, y3, f3) s (L ++ [(s, ⟨h, t⟩)]) = loadS bs by rw [← HK3.out, if_neg c1])
        have HST := Lib.hid (HI.out.step c1 HQ1.out.2 HQ2.out.2 HQ3.out.2)
        have HSL := Lib.hid (show s.length ≤ maxLen by have := HQ1.out.2; simp only [maxLen]; omega)
        obtain ⟨hb1, hb2⟩ := nm_more c1
        go_wp2_with fail
        refine (rText_c r A n c p y f 16 bs _ (HS4.out.rdIn 2 rfl HRd.out HP.out HN.out.1 HN.out.2) s p1 y1 f1 HT1.out).mono ?_
        rintro e W5 ⟨rfl, hM⟩
        have HS5 := Lib.hid (HS4.out.call 2 rfl hM)
        clear hM HS4
        go_wp2_with fail
        refine (rIn_c r A n c p1 y1 f1 0 1152921504606846976 bs _ (HS5.out.rdIn 2 rfl HRd.out HQ1.out.1 HN.out.1 HN.out.2) h p2 y2 f2 HT2.out).mono ?_
        rintro e W6 ⟨rfl, hM⟩
        have HS6 := Lib.hid (HS5.out.call 2 rfl hM)
        clear hM HS5
        go_wp2_with fail
        refine (rIn_c r A n c p2 y2 f2 0 1099511627776 bs _ (HS6.out.rdIn 2 rfl HRd.out HQ2.out.1 HN.out.1 HN.out.2) t p3 y3 f3 HT3.out).mono ?_
        rintro e W7 ⟨rfl, hM⟩
        have HS7 := Lib.hid (HS6.out.call 2 rfl hM)
        clear hM HS6
        go_wp2_with (first
          | (have hq := HS7; clear hq; (with_reducible refine atAlloc ?_); refine wpList_alloc_b rfl (some 12) rfl 66 (#[.int .i64 0, .int .i64 0]) (by kernel_rfl) ?_; intro g8 W8 hb hB hg; have HS8 := Lib.hid (HS7.out.new hb hB hg); clear hb hB hg HS7)
          | (have hq := HS8; clear hq; (with_reducible refine atStore ?_); refine wpList_store_at rfl 66 _ _ rfl (HS8.out.at_ 3 rfl) (.agg #[.int .i64 h, .int .i64 t]) rfl rfl (by kernel_rfl) (Nat.le_of_ble_eq_true rfl) (by kernel_rfl) ?_; intro W9 hB hP; have HS9 := Lib.hid (HS8.out.put 3 rfl (new := #[.int .i64 h, .int .i64 t]) hB hP); clear hB hP HS8))
        obtain ⟨s0, W1, W2, hr1, hr2, hg1, hg2, ho⟩ := entry_new (c := ⟨h, t⟩) ((HS9.out.mpOk 1 rfl).drew) HI.out.ok.ris HI.out.ok.room HSL.out HST.out.2.1
        have hr1 : (Instr.mapEntry 54 (.map (some b)) (.string (strOf s))).run Try.prog _ = _ := hr1
        rw [HST.out.2.2] at ho
        have HSn := Lib.hid (HS9.out.putE 1 rfl hg2 ho)
        have hA0 := (HS9.out.rules 0 rfl).1
        have hC0 := (HS9.out.rules 3 rfl).1
        have hA2 := (HSn.out.rules 0 rfl).1
        have hC2 := (HSn.out.rules 3 rfl).1
        have HA1 := Lib.hid ((HS9.out.drewN 1).grown1 1 rfl hg1 0 3 rfl rfl (by decide) (by decide))
        have K0 := Lib.hid (And.intro hA0 hC0)
        have K2 := Lib.hid (And.intro hA2 hC2)
        clear hA0 hC0 hA2 hC2 hg1 hg2 ho
        go_region_held3 (fun V => (∀ o, V.cell? ⟨g, o, none⟩ = (lgA half b)[o]?) ∧ (∀ o, V.cell? ⟨g8, o, none⟩ = (acA ⟨h, t⟩)[o]?)) (first | exact K0.out | exact HA1.out | exact K2.out) (first | fail)
        have HS10 := HSn
        clear HSn
        have hjm : IntKind.i64.wrap (((j + 1 : Nat) : Int) - 1) = (j : Int) := by rw [show ((j + 1 : Nat) : Int) - 1 = (j : Int) by omega]; exact wrap_small (by omega) (by omega)
        go_wp2_with fail
        refine ⟨⟨j, p3, y3, f3, s, L ++ [(s, ⟨h, t⟩)], rfl, rfl, HQ3.out.1, by omega, Lib.hid HST.out.1, HK4, ?_⟩, by simp [intOf]⟩
        exact Lib.hid (Ms.cut (l := [(.blk g lgT (lgA half b)), .mp b (L ++ [(s, ⟨h, t⟩)]), blkR r A n c p3 y3 f3]) (k := [(.blk g8 66 #[.int .i64 h, .int .i64 t])]) HS10.out)
end Go.Proofs.Ytflgnlpippjhcaa
