/- Prof: turn. -/
import Derived.Test.YtkgphbjneaagoaaDoorYB
set_option linter.unusedVariables false
namespace Go.Proofs.YtkgphbjneaagoaaDoor
open Go.RowKit Go.Sort

theorem Ms.outNil {w W W' : World} {ex : Nat → Prop} {l : List Own} {b : Nat} (h : Ms w ex l W) (hb : Below W.heap.size W W') (hB : Blk W' b 114 #[.slice none 0 0]) (hg : W.heap.size ≤ b) : Ms w ex (l ++ [.out b none 0 []]) W' :=
  h.add hb (o := .out b none 0 []) ⟨hB, World.ownsRow_nil _ _ _ _, by simp [Value.ownBlock]⟩ (fun k hk => by
    rcases hk with h1 | h1
    · omega
    · simp [Value.ownBlock] at h1)
theorem Ms.rowOf {w W : World} {ex : Nat → Prop} {b : Nat} {A : Option Addr} {c : Nat} {s : List (Sp NS)} (h : Ms w ex [.out b A c s] W) : Ms w ex [rowP A c s] W := by
  have key : ∀ (i : Nat) (o : Own), [rowP A c s][i]? = some o → i = 0 ∧ o = rowP A c s := fun i b hi => by
    cases i with
    | zero => simp at hi; exact ⟨rfl, hi.symm⟩
    | succ i => simp at hi
  refine ⟨fun i o hi => ?_, fun i o hi k hk => ?_, fun i j a b hi hj hij => ?_, h.turn⟩
  · rw [(key i o hi).2]; exact (h.ok 0 _ rfl).2.1
  · rw [(key i o hi).2] at hk; exact h.lo 0 _ rfl k (.inr hk)
  · rw [(key i a hi).1, (key j b hj).1] at hij; exact absurd rfl hij
theorem putP_lt {α : Type} [DecidableEq α] {out : List (Sp α)} {a b : Int} {f : α} (h : ∀ s ∈ out, s.at_ < a) (hab : a < b) : ∀ s ∈ putP out a f, s.at_ < b := by
  unfold putP
  intro s hs
  split at hs
  · simp at hs; subst hs; exact hab
  · split at hs
    · rcases List.mem_append.1 hs with h1 | h1
      · have := h s h1; omega
      · simp at h1; subst h1; exact hab
    · have := h s hs; omega
theorem putP_len {α : Type} [DecidableEq α] (out : List (Sp α)) (a : Int) (f : α) : (putP out a f).length ≤ out.length + 1 := by
  unfold putP
  split
  · simp
  · split <;> simp
/-- Where the next step is, by its index. -/
def nxt (l : List (Sp NS)) (k : Nat) : Int := if k + 1 < l.length then (stp emptyS l (k + 1)).at_ else 2199023255552
theorem drop_step (l : List (Sp NS)) (k : Nat) (hk : k < l.length) : l.drop k = stp emptyS l k :: l.drop (k + 1) := by
  rw [List.drop_eq_getElem_cons hk]
  congr 1
  simp [stp, List.getD_eq_getElem?_getD, hk]
theorem nextAt_drop (l : List (Sp NS)) (k : Nat) : nextAt 2199023255552 (l.drop (k + 1)) = nxt l k := by
  unfold nxt
  by_cases h : k + 1 < l.length
  · rw [if_pos h, drop_step l (k + 1) h]; rfl
  · rw [if_neg h, List.drop_eq_nil_of_le (by omega)]; rfl
theorem turnL_step {lo hi : Int} {do_ : NS → NS} {out : List (Sp NS)} {l : List (Sp NS)} {k : Nat} (hk : k < l.length) : turnL 2199023255552 lo hi do_ out (l.drop k) = turnL 2199023255552 lo hi do_ (turn1 out (stp emptyS l k).at_ (nxt l k) lo hi (stp emptyS l k).free do_) (l.drop (k + 1)) := by
  rw [drop_step l k hk, turnL, nextAt_drop]
theorem nxt_gt {l : List (Sp NS)} {t0 : Int} (h : Prf t0 2199023255552 l) {k : Nat} (hk : k < l.length) : (stp emptyS l k).at_ < nxt l k ∧ nxt l k ≤ 2199023255552 := by
  unfold nxt
  by_cases h1 : k + 1 < l.length
  · rw [if_pos h1]
    exact ⟨stp_lt emptyS h.can (by omega) h1, Int.le_of_lt (stp_bounds h h1).2⟩
  · rw [if_neg h1]; exact ⟨(stp_bounds h hk).2, Int.le_refl _⟩
theorem nextCell {w : World} {g : Nat} {nodes : NS} {ad : Addr} {c : Nat} {l : List (Sp NS)} {t0 : Int} (h : PfOk w g nodes (some ad) c l t0) {k : Nat} (hk : k < l.length) : w.cell? (ad.add (k * 5)) = some (.int .i64 (stp emptyS l k).at_) := h.read.at_ hk 0 _ rfl
set_option maxRecDepth 100000 in
set_option maxHeartbeats 16000000 in
theorem turn_c (g : Nat) (nodes : NS) (A : Option Addr) (c : Nat) (l : List (Sp NS)) (t0 lo hi : Int) (w : World) (h : PfOk w g nodes A c l t0) (h4 : l.length ≤ 4096) (h0 : t0 ≤ lo) (hlh : lo < hi) (hE : hi ≤ 2199023255552)
    (K gs : Nat) (s : NS) (do_ : NS → NS) (hK : ∀ W f, (callFunc K #[nsV f, .pointer (some ⟨gs, 0, none⟩)]).run Tryd.prog W = .ok (.enter K #[nsV f, .pointer (some ⟨gs, 0, none⟩)]) W) (hs : Blk w gs 24 (nsA s)) (hF : ∀ W f, Blk W gs 24 (nsA s) → Calls Tryd.prog K #[nsV f, .pointer (some ⟨gs, 0, none⟩)] W fun e w' => e = .returned (nsV (do_ f)) ∧ Below W.heap.size W w') :
    Calls Tryd.prog 56 #[.pointer (some ⟨g, 0, none⟩), .int .i64 lo, .int .i64 hi, .func (.func K) #[] #[.pointer (some ⟨gs, 0, none⟩)]] w fun e w' =>
      ∃ A' c', e = .returned (slP A' c' (turnL 2199023255552 lo hi do_ [] l)) ∧ Ms w noB [rowP A' c' (turnL 2199023255552 lo hi do_ [] l)] w' := by
  have HH := Lib.hid h
  have HF := Lib.hid hF
  have HG := Lib.hid hs
  have HKK := Lib.hid hK
  obtain ⟨ad, hAe, -⟩ := h.read.2.2 h.pos
  subst hAe
  have hlI : (l.length : Int) ≤ 4096 := by omega
  have H4 := Lib.hid h4
  have HB := Lib.hid (show t0 ≤ lo ∧ lo < hi ∧ hi ≤ 2199023255552 from ⟨h0, hlh, hE⟩)
  clear h hF hs h4 h0 hlh hE hK
  go_enter Tryd.func56, Tryd.ntmps56
  have HS0 := Lib.hid (Ms.nil w noB)
  obtain ⟨r1, r2, r3⟩ := HH.out.blk.rules
  go_wp2_with (have hq := HS0; clear hq; refine wpList_alloc_b rfl (some 9) rfl 114 #[.slice none 0 0] (by kernel_rfl) ?_; intro g1 W1 hb hB hg; have HS1 := Lib.hid (HS0.out.outNil hb hB hg); clear hb hB hg HS0 r1 r2 r3; obtain ⟨r1, r2, r3⟩ := (HH.out.after HS1.out.below).blk.rules)
  clear r1 r2 r3
  go_loopw [23] (fun k wr => ∃ (kk : Nat) (out : List (Sp NS)) (A2 : Option Addr) (c2 : Nat), kk ≤ l.length ∧ k = .int .i64 (kk : Nat) ∧ Hid (turnL 2199023255552 lo hi do_ out (l.drop kk) = turnL 2199023255552 lo hi do_ [] l) ∧ Hid (kk < l.length → ∀ s ∈ out, s.at_ < (stp emptyS l kk).at_) ∧ Hid (out.length ≤ 3 * kk) ∧ Hid (Ms w noB [.out g1 A2 c2 out] wr)) (fun k _ => l.length - (intOf k).toNat)
  case atStart => exact ⟨0, [], none, 0, by omega, rfl, Lib.hid rfl, Lib.hid (fun _ s hs => by cases hs), Lib.hid (by simp), HS1⟩
  case round =>
    obtain ⟨k, out, A2, c2, hkm, rfl, HT, HLT, HLN, HS2⟩ := hrel
    by_cases hlt : k < l.length
    · have hltI : (k : Int) < (l.length : Int) := by omega
      have HC := Lib.hid ((HH.out.after HS2.out.below).read.at_ hlt)
      have HT2 := Lib.hid (turnL_step (lo := lo) (hi := hi) (do_ := do_) (out := out) hlt ▸ HT.out)
      have HXB := Lib.hid (stp_bounds HH.out.prf hlt)
      have HXN := Lib.hid (nxt_gt HH.out.prf hlt)
      have HPF := Lib.hid (HH.out.after HS2.out.below)
      have HLT2 := Lib.hid (HLT.out hlt)
      have HNX := Lib.hid (show nxt l k = if k + 1 < l.length then (stp emptyS l (k + 1)).at_ else 2199023255552 from rfl)
      have HO := Lib.hid (show ∀ hk : k + 1 < l.length, (PfOk w g nodes (some ad) c l t0) from fun _ => HH.out)
      clear HT HLT
      obtain ⟨x, hx⟩ : ∃ x, x = stp emptyS l k := ⟨_, rfl⟩
      obtain ⟨nx, hn⟩ : ∃ nx, nx = nxt l k := ⟨_, rfl⟩
      rw [← hx] at HC HT2 HXB HXN HLT2
      rw [← hn] at HT2 HXN HNX
      have HX := Lib.hid hx
      clear hx hn
      -- ROUND
      by_cases hk1 : k + 1 < l.length
      · have hk1I : (k : Int) + 1 < (l.length : Int) := by omega
        rw [if_pos hk1] at HNX
        have HNK := Lib.hid (show k + 1 < l.length → nx = (stp emptyS l (k + 1)).at_ from fun _ => HNX.out)
        obtain ⟨r1, r2, r3⟩ := HPF.out.blk.rules
        have hww : IntKind.i64.wrap ((k : Int) + 1) = (k : Int) + 1 := by rw [IntKind.wrap_i64]; omega
        have hb1 := HB.out.1
        have hb2 := HB.out.2.1
        have hb3 := HXN.out.1
        by_cases hA : x.at_ < lo
        · by_cases hB : lo < nx
          · by_cases hC : hi < nx
            · go_wp2_with (first
                | (have hq := HC; clear hq; refine wpList_load_ad (by kernel_rfl) 113 _ rfl (ad.add (k * 5)) (spL x) HC.out rfl _ (spV x) rfl Tryd.underlying113 rfl (by kernel_rfl) ?_; clear HC)
                | (have hq := HS2; clear hq; refine wpList_alloc_b rfl (some 12) rfl 113 z5P (by kernel_rfl) ?_; intro g3 W9 hb hB hg; have HS3 := Lib.hid (HS2.out.new hb hB hg); clear hb hB hg HS2 r1 r2 r3)
                | (have hq := HS3; clear hq; refine wpList_store_at rfl 113 _ _ rfl (HS3.out.at_ 1 rfl) (spV x) rfl rfl (by kernel_rfl) (Nat.le_of_ble_eq_true rfl) (by kernel_rfl) ?_; intro W10 hB hP; have HS4 := Lib.hid (HS3.out.put 1 rfl (new := spA x) hB hP); clear hB hP HS3; obtain ⟨r1, r2, r3⟩ := (HH.out.after HS4.out.below).blk.rules; obtain ⟨s1, s2, s3⟩ := HS4.out.rules 1 rfl; have s4 := nextCell (HH.out.after HS4.out.below) hk1; rw [← HNX.out] at s4)
                | (have hq := HS4; clear hq; refine wpList_load_at rfl 24 _ rfl (HS4.out.at_ 1 rfl) 4 (nsV x.free) rfl _ Tryd.underlying24 rfl (by kernel_rfl) (Nat.le_of_ble_eq_true rfl) rfl ?_))
              refine (put_c g1 _ _ out (by have := HLN.out; have := H4.out; omega) x.at_ (x.free) _ (HS4.out.ok 0 _ rfl) HLT2.out).mono ?_
              rintro e4 V4 ⟨rfl, A4, c4, hM⟩
              have HS5 := Lib.hid (HS4.out.call 0 rfl hM)
              clear hM HS4
              obtain ⟨oa, hoa⟩ : ∃ oa, oa = putP out x.at_ (x.free) := ⟨_, rfl⟩
              rw [← hoa] at HS5
              have HLNoa := Lib.hid (show oa.length ≤ out.length + 1 by rw [hoa]; exact putP_len _ _ _)
              have Hoa := Lib.hid hoa
              clear hoa
              obtain ⟨s1, s2, s3⟩ := HS5.out.rules 1 rfl
              clear r1 r2 r3 s4
              have HLTa := Lib.hid (show ∀ s ∈ oa, s.at_ < max x.at_ lo by rw [Hoa.out]; exact putP_lt HLT2.out (by omega))
              have HLNa := Lib.hid (show oa.length ≤ 3 * k + 1 by have := HLNoa.out; have := HLN.out; omega)
              go_wp2_with (have hq := HS5; clear hq; refine wpList_load_at rfl 24 _ rfl (HS5.out.at_ 1 rfl) 4 (nsV x.free) rfl _ Tryd.underlying24 rfl (by kernel_rfl) (Nat.le_of_ble_eq_true rfl) rfl ?_)
              rw [HKK.out, Oper.upon_enter]
              refine (HF.out _ _ (HG.out.after HS5.out.below)).mono ?_
              rintro ed Vd ⟨rfl, hb⟩
              have HS6 := Lib.hid (HS5.out.after hb)
              clear hb HS5 s1 s2 s3
              go_wp2_with fail
              refine (put_c g1 _ _ oa (by have := HLNa.out; have := H4.out; omega) (max x.at_ lo) (do_ x.free) _ (HS6.out.ok 0 _ rfl) HLTa.out).mono ?_
              rintro e6 V6 ⟨rfl, A6, c6, hM⟩
              have HS7 := Lib.hid (HS6.out.call 0 rfl hM)
              clear hM HS6
              obtain ⟨ob, hob⟩ : ∃ ob, ob = putP oa (max x.at_ lo) (do_ x.free) := ⟨_, rfl⟩
              rw [← hob] at HS7
              have HLNob := Lib.hid (show ob.length ≤ oa.length + 1 by rw [hob]; exact putP_len _ _ _)
              have Hob := Lib.hid hob
              clear hob
              obtain ⟨s1, s2, s3⟩ := HS7.out.rules 1 rfl
              have HLTb := Lib.hid (show ∀ s ∈ ob, s.at_ < max x.at_ hi by rw [Hob.out]; exact putP_lt HLTa.out (by omega))
              have HLNb := Lib.hid (show ob.length ≤ 3 * k + 2 by have := HLNob.out; have := HLNa.out; omega)
              go_wp2_with (have hq := HS7; clear hq; refine wpList_load_at rfl 24 _ rfl (HS7.out.at_ 1 rfl) 4 (nsV x.free) rfl _ Tryd.underlying24 rfl (by kernel_rfl) (Nat.le_of_ble_eq_true rfl) rfl ?_)
              refine (put_c g1 _ _ ob (by have := HLNb.out; have := H4.out; omega) (max x.at_ hi) (x.free) _ (HS7.out.ok 0 _ rfl) HLTb.out).mono ?_
              rintro e7 V7 ⟨rfl, A7, c7, hM⟩
              have HS8 := Lib.hid (HS7.out.call 0 rfl hM)
              clear hM HS7
              obtain ⟨oc, hoc⟩ : ∃ oc, oc = putP ob (max x.at_ hi) (x.free) := ⟨_, rfl⟩
              rw [← hoc] at HS8
              have HLNoc := Lib.hid (show oc.length ≤ ob.length + 1 by rw [hoc]; exact putP_len _ _ _)
              have Hoc := Lib.hid hoc
              clear hoc
              obtain ⟨s1, s2, s3⟩ := HS8.out.rules 1 rfl
              have HLTc := Lib.hid (show ∀ s ∈ oc, s.at_ < nx by rw [Hoc.out]; exact putP_lt HLTb.out (by omega))
              have HLNc := Lib.hid (show oc.length ≤ 3 * k + 3 by have := HLNoc.out; have := HLNb.out; omega)
              have HT3 := Lib.hid (show turn1 out x.at_ nx lo hi x.free do_ = oc by
                unfold turn1
                simp only []
                rw [if_pos (show x.at_ < lo by omega), ← Hoa.out, if_pos (show max x.at_ lo < min nx hi by omega), ← Hob.out, if_pos (show max x.at_ hi < nx by omega), ← Hoc.out])
              rw [HT3.out] at HT2
              go_wp2_with fail
              refine ⟨⟨k + 1, oc, _, _, by omega, by go_num, HT2, Lib.hid (fun hk s hs => ?_), Lib.hid (by have := HLNc.out; omega), Lib.hid (Ms.cut (l := [.out g1 _ _ oc]) (k := [.blk g3 113 _]) HS8.out)⟩, by simp [intOf]; omega⟩
              exact HNK.out hk ▸ HLTc.out s hs
            · go_wp2_with (first
                | (have hq := HC; clear hq; refine wpList_load_ad (by kernel_rfl) 113 _ rfl (ad.add (k * 5)) (spL x) HC.out rfl _ (spV x) rfl Tryd.underlying113 rfl (by kernel_rfl) ?_; clear HC)
                | (have hq := HS2; clear hq; refine wpList_alloc_b rfl (some 12) rfl 113 z5P (by kernel_rfl) ?_; intro g3 W9 hb hB hg; have HS3 := Lib.hid (HS2.out.new hb hB hg); clear hb hB hg HS2 r1 r2 r3)
                | (have hq := HS3; clear hq; refine wpList_store_at rfl 113 _ _ rfl (HS3.out.at_ 1 rfl) (spV x) rfl rfl (by kernel_rfl) (Nat.le_of_ble_eq_true rfl) (by kernel_rfl) ?_; intro W10 hB hP; have HS4 := Lib.hid (HS3.out.put 1 rfl (new := spA x) hB hP); clear hB hP HS3; obtain ⟨r1, r2, r3⟩ := (HH.out.after HS4.out.below).blk.rules; obtain ⟨s1, s2, s3⟩ := HS4.out.rules 1 rfl; have s4 := nextCell (HH.out.after HS4.out.below) hk1; rw [← HNX.out] at s4)
                | (have hq := HS4; clear hq; refine wpList_load_at rfl 24 _ rfl (HS4.out.at_ 1 rfl) 4 (nsV x.free) rfl _ Tryd.underlying24 rfl (by kernel_rfl) (Nat.le_of_ble_eq_true rfl) rfl ?_))
              refine (put_c g1 _ _ out (by have := HLN.out; have := H4.out; omega) x.at_ (x.free) _ (HS4.out.ok 0 _ rfl) HLT2.out).mono ?_
              rintro e4 V4 ⟨rfl, A4, c4, hM⟩
              have HS5 := Lib.hid (HS4.out.call 0 rfl hM)
              clear hM HS4
              obtain ⟨oa, hoa⟩ : ∃ oa, oa = putP out x.at_ (x.free) := ⟨_, rfl⟩
              rw [← hoa] at HS5
              have HLNoa := Lib.hid (show oa.length ≤ out.length + 1 by rw [hoa]; exact putP_len _ _ _)
              have Hoa := Lib.hid hoa
              clear hoa
              obtain ⟨s1, s2, s3⟩ := HS5.out.rules 1 rfl
              clear r1 r2 r3 s4
              have HLTa := Lib.hid (show ∀ s ∈ oa, s.at_ < max x.at_ lo by rw [Hoa.out]; exact putP_lt HLT2.out (by omega))
              have HLNa := Lib.hid (show oa.length ≤ 3 * k + 1 by have := HLNoa.out; have := HLN.out; omega)
              go_wp2_with (have hq := HS5; clear hq; refine wpList_load_at rfl 24 _ rfl (HS5.out.at_ 1 rfl) 4 (nsV x.free) rfl _ Tryd.underlying24 rfl (by kernel_rfl) (Nat.le_of_ble_eq_true rfl) rfl ?_)
              rw [HKK.out, Oper.upon_enter]
              refine (HF.out _ _ (HG.out.after HS5.out.below)).mono ?_
              rintro ed Vd ⟨rfl, hb⟩
              have HS6 := Lib.hid (HS5.out.after hb)
              clear hb HS5 s1 s2 s3
              go_wp2_with fail
              refine (put_c g1 _ _ oa (by have := HLNa.out; have := H4.out; omega) (max x.at_ lo) (do_ x.free) _ (HS6.out.ok 0 _ rfl) HLTa.out).mono ?_
              rintro e6 V6 ⟨rfl, A6, c6, hM⟩
              have HS7 := Lib.hid (HS6.out.call 0 rfl hM)
              clear hM HS6
              obtain ⟨ob, hob⟩ : ∃ ob, ob = putP oa (max x.at_ lo) (do_ x.free) := ⟨_, rfl⟩
              rw [← hob] at HS7
              have HLNob := Lib.hid (show ob.length ≤ oa.length + 1 by rw [hob]; exact putP_len _ _ _)
              have Hob := Lib.hid hob
              clear hob
              obtain ⟨s1, s2, s3⟩ := HS7.out.rules 1 rfl
              have HLTb := Lib.hid (show ∀ s ∈ ob, s.at_ < max x.at_ hi by rw [Hob.out]; exact putP_lt HLTa.out (by omega))
              have HLNb := Lib.hid (show ob.length ≤ 3 * k + 2 by have := HLNob.out; have := HLNa.out; omega)
              have HLTc := Lib.hid (show ∀ s ∈ ob, s.at_ < nx by rw [Hob.out]; exact putP_lt HLTa.out (by omega))
              have HT3 := Lib.hid (show turn1 out x.at_ nx lo hi x.free do_ = ob by
                unfold turn1
                simp only []
                rw [if_pos (show x.at_ < lo by omega), ← Hoa.out, if_pos (show max x.at_ lo < min nx hi by omega), ← Hob.out, if_neg (show ¬ max x.at_ hi < nx by omega)])
              rw [HT3.out] at HT2
              go_wp2_with fail
              refine ⟨⟨k + 1, ob, _, _, by omega, by go_num, HT2, Lib.hid (fun hk s hs => ?_), Lib.hid (by have := HLNb.out; omega), Lib.hid (Ms.cut (l := [.out g1 _ _ ob]) (k := [.blk g3 113 _]) HS7.out)⟩, by simp [intOf]; omega⟩
              exact HNK.out hk ▸ HLTc.out s hs
          · go_wp2_with (first
              | (have hq := HC; clear hq; refine wpList_load_ad (by kernel_rfl) 113 _ rfl (ad.add (k * 5)) (spL x) HC.out rfl _ (spV x) rfl Tryd.underlying113 rfl (by kernel_rfl) ?_; clear HC)
              | (have hq := HS2; clear hq; refine wpList_alloc_b rfl (some 12) rfl 113 z5P (by kernel_rfl) ?_; intro g3 W9 hb hB hg; have HS3 := Lib.hid (HS2.out.new hb hB hg); clear hb hB hg HS2 r1 r2 r3)
              | (have hq := HS3; clear hq; refine wpList_store_at rfl 113 _ _ rfl (HS3.out.at_ 1 rfl) (spV x) rfl rfl (by kernel_rfl) (Nat.le_of_ble_eq_true rfl) (by kernel_rfl) ?_; intro W10 hB hP; have HS4 := Lib.hid (HS3.out.put 1 rfl (new := spA x) hB hP); clear hB hP HS3; obtain ⟨r1, r2, r3⟩ := (HH.out.after HS4.out.below).blk.rules; obtain ⟨s1, s2, s3⟩ := HS4.out.rules 1 rfl; have s4 := nextCell (HH.out.after HS4.out.below) hk1; rw [← HNX.out] at s4)
              | (have hq := HS4; clear hq; refine wpList_load_at rfl 24 _ rfl (HS4.out.at_ 1 rfl) 4 (nsV x.free) rfl _ Tryd.underlying24 rfl (by kernel_rfl) (Nat.le_of_ble_eq_true rfl) rfl ?_))
            refine (put_c g1 _ _ out (by have := HLN.out; have := H4.out; omega) x.at_ (x.free) _ (HS4.out.ok 0 _ rfl) HLT2.out).mono ?_
            rintro e4 V4 ⟨rfl, A4, c4, hM⟩
            have HS5 := Lib.hid (HS4.out.call 0 rfl hM)
            clear hM HS4
            obtain ⟨oa, hoa⟩ : ∃ oa, oa = putP out x.at_ (x.free) := ⟨_, rfl⟩
            rw [← hoa] at HS5
            have HLNoa := Lib.hid (show oa.length ≤ out.length + 1 by rw [hoa]; exact putP_len _ _ _)
            have Hoa := Lib.hid hoa
            clear hoa
            obtain ⟨s1, s2, s3⟩ := HS5.out.rules 1 rfl
            clear r1 r2 r3 s4
            have HLTa := Lib.hid (show ∀ s ∈ oa, s.at_ < max x.at_ lo by rw [Hoa.out]; exact putP_lt HLT2.out (by omega))
            have HLNa := Lib.hid (show oa.length ≤ 3 * k + 1 by have := HLNoa.out; have := HLN.out; omega)
            have HLTb := Lib.hid (show ∀ s ∈ oa, s.at_ < max x.at_ hi from fun s hs => by have := HLTa.out s hs; omega)
            have HLTc := Lib.hid (show ∀ s ∈ oa, s.at_ < nx by rw [Hoa.out]; exact putP_lt HLT2.out (by have := HXN.out; omega))
            have HT3 := Lib.hid (show turn1 out x.at_ nx lo hi x.free do_ = oa by
              unfold turn1
              simp only []
              rw [if_pos (show x.at_ < lo by omega), ← Hoa.out, if_neg (show ¬ max x.at_ lo < min nx hi by omega), if_neg (show ¬ max x.at_ hi < nx by omega)])
            rw [HT3.out] at HT2
            go_wp2_with fail
            refine ⟨⟨k + 1, oa, _, _, by omega, by go_num, HT2, Lib.hid (fun hk s hs => ?_), Lib.hid (by have := HLNa.out; omega), Lib.hid (Ms.cut (l := [.out g1 _ _ oa]) (k := [.blk g3 113 _]) HS5.out)⟩, by simp [intOf]; omega⟩
            exact HNK.out hk ▸ HLTc.out s hs
        · by_cases hD : x.at_ < hi
          · by_cases hC : hi < nx
            · have HLTa := Lib.hid (show ∀ s ∈ out, s.at_ < max x.at_ lo from fun s hs => by have := HLT2.out s hs; omega)
              go_wp2_with (first
                | (have hq := HC; clear hq; refine wpList_load_ad (by kernel_rfl) 113 _ rfl (ad.add (k * 5)) (spL x) HC.out rfl _ (spV x) rfl Tryd.underlying113 rfl (by kernel_rfl) ?_; clear HC)
                | (have hq := HS2; clear hq; refine wpList_alloc_b rfl (some 12) rfl 113 z5P (by kernel_rfl) ?_; intro g3 W9 hb hB hg; have HS3 := Lib.hid (HS2.out.new hb hB hg); clear hb hB hg HS2 r1 r2 r3)
                | (have hq := HS3; clear hq; refine wpList_store_at rfl 113 _ _ rfl (HS3.out.at_ 1 rfl) (spV x) rfl rfl (by kernel_rfl) (Nat.le_of_ble_eq_true rfl) (by kernel_rfl) ?_; intro W10 hB hP; have HS4 := Lib.hid (HS3.out.put 1 rfl (new := spA x) hB hP); clear hB hP HS3; obtain ⟨r1, r2, r3⟩ := (HH.out.after HS4.out.below).blk.rules; obtain ⟨s1, s2, s3⟩ := HS4.out.rules 1 rfl; have s4 := nextCell (HH.out.after HS4.out.below) hk1; rw [← HNX.out] at s4)
                | (have hq := HS4; clear hq; refine wpList_load_at rfl 24 _ rfl (HS4.out.at_ 1 rfl) 4 (nsV x.free) rfl _ Tryd.underlying24 rfl (by kernel_rfl) (Nat.le_of_ble_eq_true rfl) rfl ?_))
              rw [HKK.out, Oper.upon_enter]
              refine (HF.out _ _ (HG.out.after HS4.out.below)).mono ?_
              rintro ed Vd ⟨rfl, hb⟩
              have HS5 := Lib.hid (HS4.out.after hb)
              clear r1 r2 r3 s4
              clear hb HS4 s1 s2 s3
              go_wp2_with fail
              refine (put_c g1 _ _ out (by have := HLN.out; have := H4.out; omega) (max x.at_ lo) (do_ x.free) _ (HS5.out.ok 0 _ rfl) HLTa.out).mono ?_
              rintro e5 V5 ⟨rfl, A5, c5, hM⟩
              have HS6 := Lib.hid (HS5.out.call 0 rfl hM)
              clear hM HS5
              obtain ⟨ob, hob⟩ : ∃ ob, ob = putP out (max x.at_ lo) (do_ x.free) := ⟨_, rfl⟩
              rw [← hob] at HS6
              have HLNob := Lib.hid (show ob.length ≤ out.length + 1 by rw [hob]; exact putP_len _ _ _)
              have Hob := Lib.hid hob
              clear hob
              obtain ⟨s1, s2, s3⟩ := HS6.out.rules 1 rfl
              have HLTb := Lib.hid (show ∀ s ∈ ob, s.at_ < max x.at_ hi by rw [Hob.out]; exact putP_lt HLTa.out (by omega))
              have HLNb := Lib.hid (show ob.length ≤ 3 * k + 1 by have := HLNob.out; have := HLN.out; omega)
              go_wp2_with (have hq := HS6; clear hq; refine wpList_load_at rfl 24 _ rfl (HS6.out.at_ 1 rfl) 4 (nsV x.free) rfl _ Tryd.underlying24 rfl (by kernel_rfl) (Nat.le_of_ble_eq_true rfl) rfl ?_)
              refine (put_c g1 _ _ ob (by have := HLNb.out; have := H4.out; omega) (max x.at_ hi) (x.free) _ (HS6.out.ok 0 _ rfl) HLTb.out).mono ?_
              rintro e6 V6 ⟨rfl, A6, c6, hM⟩
              have HS7 := Lib.hid (HS6.out.call 0 rfl hM)
              clear hM HS6
              obtain ⟨oc, hoc⟩ : ∃ oc, oc = putP ob (max x.at_ hi) (x.free) := ⟨_, rfl⟩
              rw [← hoc] at HS7
              have HLNoc := Lib.hid (show oc.length ≤ ob.length + 1 by rw [hoc]; exact putP_len _ _ _)
              have Hoc := Lib.hid hoc
              clear hoc
              obtain ⟨s1, s2, s3⟩ := HS7.out.rules 1 rfl
              have HLTc := Lib.hid (show ∀ s ∈ oc, s.at_ < nx by rw [Hoc.out]; exact putP_lt HLTb.out (by omega))
              have HLNc := Lib.hid (show oc.length ≤ 3 * k + 2 by have := HLNoc.out; have := HLNb.out; omega)
              have HT3 := Lib.hid (show turn1 out x.at_ nx lo hi x.free do_ = oc by
                unfold turn1
                simp only []
                rw [if_neg (show ¬ x.at_ < lo by omega), if_pos (show max x.at_ lo < min nx hi by omega), ← Hob.out, if_pos (show max x.at_ hi < nx by omega), ← Hoc.out])
              rw [HT3.out] at HT2
              go_wp2_with fail
              refine ⟨⟨k + 1, oc, _, _, by omega, by go_num, HT2, Lib.hid (fun hk s hs => ?_), Lib.hid (by have := HLNc.out; omega), Lib.hid (Ms.cut (l := [.out g1 _ _ oc]) (k := [.blk g3 113 _]) HS7.out)⟩, by simp [intOf]; omega⟩
              exact HNK.out hk ▸ HLTc.out s hs
            · have HLTa := Lib.hid (show ∀ s ∈ out, s.at_ < max x.at_ lo from fun s hs => by have := HLT2.out s hs; omega)
              go_wp2_with (first
                | (have hq := HC; clear hq; refine wpList_load_ad (by kernel_rfl) 113 _ rfl (ad.add (k * 5)) (spL x) HC.out rfl _ (spV x) rfl Tryd.underlying113 rfl (by kernel_rfl) ?_; clear HC)
                | (have hq := HS2; clear hq; refine wpList_alloc_b rfl (some 12) rfl 113 z5P (by kernel_rfl) ?_; intro g3 W9 hb hB hg; have HS3 := Lib.hid (HS2.out.new hb hB hg); clear hb hB hg HS2 r1 r2 r3)
                | (have hq := HS3; clear hq; refine wpList_store_at rfl 113 _ _ rfl (HS3.out.at_ 1 rfl) (spV x) rfl rfl (by kernel_rfl) (Nat.le_of_ble_eq_true rfl) (by kernel_rfl) ?_; intro W10 hB hP; have HS4 := Lib.hid (HS3.out.put 1 rfl (new := spA x) hB hP); clear hB hP HS3; obtain ⟨r1, r2, r3⟩ := (HH.out.after HS4.out.below).blk.rules; obtain ⟨s1, s2, s3⟩ := HS4.out.rules 1 rfl; have s4 := nextCell (HH.out.after HS4.out.below) hk1; rw [← HNX.out] at s4)
                | (have hq := HS4; clear hq; refine wpList_load_at rfl 24 _ rfl (HS4.out.at_ 1 rfl) 4 (nsV x.free) rfl _ Tryd.underlying24 rfl (by kernel_rfl) (Nat.le_of_ble_eq_true rfl) rfl ?_))
              rw [HKK.out, Oper.upon_enter]
              refine (HF.out _ _ (HG.out.after HS4.out.below)).mono ?_
              rintro ed Vd ⟨rfl, hb⟩
              have HS5 := Lib.hid (HS4.out.after hb)
              clear r1 r2 r3 s4
              clear hb HS4 s1 s2 s3
              go_wp2_with fail
              refine (put_c g1 _ _ out (by have := HLN.out; have := H4.out; omega) (max x.at_ lo) (do_ x.free) _ (HS5.out.ok 0 _ rfl) HLTa.out).mono ?_
              rintro e5 V5 ⟨rfl, A5, c5, hM⟩
              have HS6 := Lib.hid (HS5.out.call 0 rfl hM)
              clear hM HS5
              obtain ⟨ob, hob⟩ : ∃ ob, ob = putP out (max x.at_ lo) (do_ x.free) := ⟨_, rfl⟩
              rw [← hob] at HS6
              have HLNob := Lib.hid (show ob.length ≤ out.length + 1 by rw [hob]; exact putP_len _ _ _)
              have Hob := Lib.hid hob
              clear hob
              obtain ⟨s1, s2, s3⟩ := HS6.out.rules 1 rfl
              have HLTb := Lib.hid (show ∀ s ∈ ob, s.at_ < max x.at_ hi by rw [Hob.out]; exact putP_lt HLTa.out (by omega))
              have HLNb := Lib.hid (show ob.length ≤ 3 * k + 1 by have := HLNob.out; have := HLN.out; omega)
              have HLTc := Lib.hid (show ∀ s ∈ ob, s.at_ < nx by rw [Hob.out]; exact putP_lt HLTa.out (by omega))
              have HT3 := Lib.hid (show turn1 out x.at_ nx lo hi x.free do_ = ob by
                unfold turn1
                simp only []
                rw [if_neg (show ¬ x.at_ < lo by omega), if_pos (show max x.at_ lo < min nx hi by omega), ← Hob.out, if_neg (show ¬ max x.at_ hi < nx by omega)])
              rw [HT3.out] at HT2
              go_wp2_with fail
              refine ⟨⟨k + 1, ob, _, _, by omega, by go_num, HT2, Lib.hid (fun hk s hs => ?_), Lib.hid (by have := HLNb.out; omega), Lib.hid (Ms.cut (l := [.out g1 _ _ ob]) (k := [.blk g3 113 _]) HS6.out)⟩, by simp [intOf]; omega⟩
              exact HNK.out hk ▸ HLTc.out s hs
          · have HLTa := Lib.hid (show ∀ s ∈ out, s.at_ < max x.at_ lo from fun s hs => by have := HLT2.out s hs; omega)
            have HLTb := Lib.hid (show ∀ s ∈ out, s.at_ < max x.at_ hi from fun s hs => by have := HLTa.out s hs; omega)
            go_wp2_with (first
              | (have hq := HC; clear hq; refine wpList_load_ad (by kernel_rfl) 113 _ rfl (ad.add (k * 5)) (spL x) HC.out rfl _ (spV x) rfl Tryd.underlying113 rfl (by kernel_rfl) ?_; clear HC)
              | (have hq := HS2; clear hq; refine wpList_alloc_b rfl (some 12) rfl 113 z5P (by kernel_rfl) ?_; intro g3 W9 hb hB hg; have HS3 := Lib.hid (HS2.out.new hb hB hg); clear hb hB hg HS2 r1 r2 r3)
              | (have hq := HS3; clear hq; refine wpList_store_at rfl 113 _ _ rfl (HS3.out.at_ 1 rfl) (spV x) rfl rfl (by kernel_rfl) (Nat.le_of_ble_eq_true rfl) (by kernel_rfl) ?_; intro W10 hB hP; have HS4 := Lib.hid (HS3.out.put 1 rfl (new := spA x) hB hP); clear hB hP HS3; obtain ⟨r1, r2, r3⟩ := (HH.out.after HS4.out.below).blk.rules; obtain ⟨s1, s2, s3⟩ := HS4.out.rules 1 rfl; have s4 := nextCell (HH.out.after HS4.out.below) hk1; rw [← HNX.out] at s4)
              | (have hq := HS4; clear hq; refine wpList_load_at rfl 24 _ rfl (HS4.out.at_ 1 rfl) 4 (nsV x.free) rfl _ Tryd.underlying24 rfl (by kernel_rfl) (Nat.le_of_ble_eq_true rfl) rfl ?_))
            refine (put_c g1 _ _ out (by have := HLN.out; have := H4.out; omega) (max x.at_ hi) (x.free) _ (HS4.out.ok 0 _ rfl) HLTb.out).mono ?_
            rintro e4 V4 ⟨rfl, A4, c4, hM⟩
            have HS5 := Lib.hid (HS4.out.call 0 rfl hM)
            clear hM HS4
            obtain ⟨oc, hoc⟩ : ∃ oc, oc = putP out (max x.at_ hi) (x.free) := ⟨_, rfl⟩
            rw [← hoc] at HS5
            have HLNoc := Lib.hid (show oc.length ≤ out.length + 1 by rw [hoc]; exact putP_len _ _ _)
            have Hoc := Lib.hid hoc
            clear hoc
            obtain ⟨s1, s2, s3⟩ := HS5.out.rules 1 rfl
            clear r1 r2 r3 s4
            have HLTc := Lib.hid (show ∀ s ∈ oc, s.at_ < nx by rw [Hoc.out]; exact putP_lt HLTb.out (by omega))
            have HLNc := Lib.hid (show oc.length ≤ 3 * k + 1 by have := HLNoc.out; have := HLN.out; omega)
            have HT3 := Lib.hid (show turn1 out x.at_ nx lo hi x.free do_ = oc by
              unfold turn1
              simp only []
              rw [if_neg (show ¬ x.at_ < lo by omega), if_neg (show ¬ max x.at_ lo < min nx hi by omega), if_pos (show max x.at_ hi < nx by omega), ← Hoc.out])
            rw [HT3.out] at HT2
            go_wp2_with fail
            refine ⟨⟨k + 1, oc, _, _, by omega, by go_num, HT2, Lib.hid (fun hk s hs => ?_), Lib.hid (by have := HLNc.out; omega), Lib.hid (Ms.cut (l := [.out g1 _ _ oc]) (k := [.blk g3 113 _]) HS5.out)⟩, by simp [intOf]; omega⟩
            exact HNK.out hk ▸ HLTc.out s hs
      · have hk1I : (l.length : Int) ≤ (k : Int) + 1 := by omega
        rw [if_neg hk1] at HNX
        have HNK := Lib.hid (show k + 1 < l.length → nx = (stp emptyS l (k + 1)).at_ from fun h => absurd h hk1)
        have hnx := HNX.out
        subst hnx
        obtain ⟨r1, r2, r3⟩ := HPF.out.blk.rules
        have hww : IntKind.i64.wrap ((k : Int) + 1) = (k : Int) + 1 := by rw [IntKind.wrap_i64]; omega
        have hb1 := HB.out.1
        have hb2 := HB.out.2.1
        have hb3 := HXN.out.1
        by_cases hA : x.at_ < lo
        · by_cases hB : lo < 2199023255552
          · by_cases hC : hi < 2199023255552
            · go_wp2_with (first
                | (have hq := HC; clear hq; refine wpList_load_ad (by kernel_rfl) 113 _ rfl (ad.add (k * 5)) (spL x) HC.out rfl _ (spV x) rfl Tryd.underlying113 rfl (by kernel_rfl) ?_; clear HC)
                | (have hq := HS2; clear hq; refine wpList_alloc_b rfl (some 12) rfl 113 z5P (by kernel_rfl) ?_; intro g3 W9 hb hB hg; have HS3 := Lib.hid (HS2.out.new hb hB hg); clear hb hB hg HS2 r1 r2 r3)
                | (have hq := HS3; clear hq; refine wpList_store_at rfl 113 _ _ rfl (HS3.out.at_ 1 rfl) (spV x) rfl rfl (by kernel_rfl) (Nat.le_of_ble_eq_true rfl) (by kernel_rfl) ?_; intro W10 hB hP; have HS4 := Lib.hid (HS3.out.put 1 rfl (new := spA x) hB hP); clear hB hP HS3; obtain ⟨r1, r2, r3⟩ := (HH.out.after HS4.out.below).blk.rules; obtain ⟨s1, s2, s3⟩ := HS4.out.rules 1 rfl)
                | (have hq := HS4; clear hq; refine wpList_load_at rfl 24 _ rfl (HS4.out.at_ 1 rfl) 4 (nsV x.free) rfl _ Tryd.underlying24 rfl (by kernel_rfl) (Nat.le_of_ble_eq_true rfl) rfl ?_))
              refine (put_c g1 _ _ out (by have := HLN.out; have := H4.out; omega) x.at_ (x.free) _ (HS4.out.ok 0 _ rfl) HLT2.out).mono ?_
              rintro e4 V4 ⟨rfl, A4, c4, hM⟩
              have HS5 := Lib.hid (HS4.out.call 0 rfl hM)
              clear hM HS4
              obtain ⟨oa, hoa⟩ : ∃ oa, oa = putP out x.at_ (x.free) := ⟨_, rfl⟩
              rw [← hoa] at HS5
              have HLNoa := Lib.hid (show oa.length ≤ out.length + 1 by rw [hoa]; exact putP_len _ _ _)
              have Hoa := Lib.hid hoa
              clear hoa
              obtain ⟨s1, s2, s3⟩ := HS5.out.rules 1 rfl
              clear r1 r2 r3
              have HLTa := Lib.hid (show ∀ s ∈ oa, s.at_ < max x.at_ lo by rw [Hoa.out]; exact putP_lt HLT2.out (by omega))
              have HLNa := Lib.hid (show oa.length ≤ 3 * k + 1 by have := HLNoa.out; have := HLN.out; omega)
              go_wp2_with (have hq := HS5; clear hq; refine wpList_load_at rfl 24 _ rfl (HS5.out.at_ 1 rfl) 4 (nsV x.free) rfl _ Tryd.underlying24 rfl (by kernel_rfl) (Nat.le_of_ble_eq_true rfl) rfl ?_)
              rw [HKK.out, Oper.upon_enter]
              refine (HF.out _ _ (HG.out.after HS5.out.below)).mono ?_
              rintro ed Vd ⟨rfl, hb⟩
              have HS6 := Lib.hid (HS5.out.after hb)
              clear hb HS5 s1 s2 s3
              go_wp2_with fail
              refine (put_c g1 _ _ oa (by have := HLNa.out; have := H4.out; omega) (max x.at_ lo) (do_ x.free) _ (HS6.out.ok 0 _ rfl) HLTa.out).mono ?_
              rintro e6 V6 ⟨rfl, A6, c6, hM⟩
              have HS7 := Lib.hid (HS6.out.call 0 rfl hM)
              clear hM HS6
              obtain ⟨ob, hob⟩ : ∃ ob, ob = putP oa (max x.at_ lo) (do_ x.free) := ⟨_, rfl⟩
              rw [← hob] at HS7
              have HLNob := Lib.hid (show ob.length ≤ oa.length + 1 by rw [hob]; exact putP_len _ _ _)
              have Hob := Lib.hid hob
              clear hob
              obtain ⟨s1, s2, s3⟩ := HS7.out.rules 1 rfl
              have HLTb := Lib.hid (show ∀ s ∈ ob, s.at_ < max x.at_ hi by rw [Hob.out]; exact putP_lt HLTa.out (by omega))
              have HLNb := Lib.hid (show ob.length ≤ 3 * k + 2 by have := HLNob.out; have := HLNa.out; omega)
              go_wp2_with (have hq := HS7; clear hq; refine wpList_load_at rfl 24 _ rfl (HS7.out.at_ 1 rfl) 4 (nsV x.free) rfl _ Tryd.underlying24 rfl (by kernel_rfl) (Nat.le_of_ble_eq_true rfl) rfl ?_)
              refine (put_c g1 _ _ ob (by have := HLNb.out; have := H4.out; omega) (max x.at_ hi) (x.free) _ (HS7.out.ok 0 _ rfl) HLTb.out).mono ?_
              rintro e7 V7 ⟨rfl, A7, c7, hM⟩
              have HS8 := Lib.hid (HS7.out.call 0 rfl hM)
              clear hM HS7
              obtain ⟨oc, hoc⟩ : ∃ oc, oc = putP ob (max x.at_ hi) (x.free) := ⟨_, rfl⟩
              rw [← hoc] at HS8
              have HLNoc := Lib.hid (show oc.length ≤ ob.length + 1 by rw [hoc]; exact putP_len _ _ _)
              have Hoc := Lib.hid hoc
              clear hoc
              obtain ⟨s1, s2, s3⟩ := HS8.out.rules 1 rfl
              have HLTc := Lib.hid (show ∀ s ∈ oc, s.at_ < 2199023255552 by rw [Hoc.out]; exact putP_lt HLTb.out (by omega))
              have HLNc := Lib.hid (show oc.length ≤ 3 * k + 3 by have := HLNoc.out; have := HLNb.out; omega)
              have HT3 := Lib.hid (show turn1 out x.at_ 2199023255552 lo hi x.free do_ = oc by
                unfold turn1
                simp only []
                rw [if_pos (show x.at_ < lo by omega), ← Hoa.out, if_pos (show max x.at_ lo < min 2199023255552 hi by omega), ← Hob.out, if_pos (show max x.at_ hi < 2199023255552 by omega), ← Hoc.out])
              rw [HT3.out] at HT2
              go_wp2_with fail
              refine ⟨⟨k + 1, oc, _, _, by omega, by go_num, HT2, Lib.hid (fun hk s hs => ?_), Lib.hid (by have := HLNc.out; omega), Lib.hid (Ms.cut (l := [.out g1 _ _ oc]) (k := [.blk g3 113 _]) HS8.out)⟩, by simp [intOf]; omega⟩
              exact HNK.out hk ▸ HLTc.out s hs
            · go_wp2_with (first
                | (have hq := HC; clear hq; refine wpList_load_ad (by kernel_rfl) 113 _ rfl (ad.add (k * 5)) (spL x) HC.out rfl _ (spV x) rfl Tryd.underlying113 rfl (by kernel_rfl) ?_; clear HC)
                | (have hq := HS2; clear hq; refine wpList_alloc_b rfl (some 12) rfl 113 z5P (by kernel_rfl) ?_; intro g3 W9 hb hB hg; have HS3 := Lib.hid (HS2.out.new hb hB hg); clear hb hB hg HS2 r1 r2 r3)
                | (have hq := HS3; clear hq; refine wpList_store_at rfl 113 _ _ rfl (HS3.out.at_ 1 rfl) (spV x) rfl rfl (by kernel_rfl) (Nat.le_of_ble_eq_true rfl) (by kernel_rfl) ?_; intro W10 hB hP; have HS4 := Lib.hid (HS3.out.put 1 rfl (new := spA x) hB hP); clear hB hP HS3; obtain ⟨r1, r2, r3⟩ := (HH.out.after HS4.out.below).blk.rules; obtain ⟨s1, s2, s3⟩ := HS4.out.rules 1 rfl)
                | (have hq := HS4; clear hq; refine wpList_load_at rfl 24 _ rfl (HS4.out.at_ 1 rfl) 4 (nsV x.free) rfl _ Tryd.underlying24 rfl (by kernel_rfl) (Nat.le_of_ble_eq_true rfl) rfl ?_))
              refine (put_c g1 _ _ out (by have := HLN.out; have := H4.out; omega) x.at_ (x.free) _ (HS4.out.ok 0 _ rfl) HLT2.out).mono ?_
              rintro e4 V4 ⟨rfl, A4, c4, hM⟩
              have HS5 := Lib.hid (HS4.out.call 0 rfl hM)
              clear hM HS4
              obtain ⟨oa, hoa⟩ : ∃ oa, oa = putP out x.at_ (x.free) := ⟨_, rfl⟩
              rw [← hoa] at HS5
              have HLNoa := Lib.hid (show oa.length ≤ out.length + 1 by rw [hoa]; exact putP_len _ _ _)
              have Hoa := Lib.hid hoa
              clear hoa
              obtain ⟨s1, s2, s3⟩ := HS5.out.rules 1 rfl
              clear r1 r2 r3
              have HLTa := Lib.hid (show ∀ s ∈ oa, s.at_ < max x.at_ lo by rw [Hoa.out]; exact putP_lt HLT2.out (by omega))
              have HLNa := Lib.hid (show oa.length ≤ 3 * k + 1 by have := HLNoa.out; have := HLN.out; omega)
              go_wp2_with (have hq := HS5; clear hq; refine wpList_load_at rfl 24 _ rfl (HS5.out.at_ 1 rfl) 4 (nsV x.free) rfl _ Tryd.underlying24 rfl (by kernel_rfl) (Nat.le_of_ble_eq_true rfl) rfl ?_)
              rw [HKK.out, Oper.upon_enter]
              refine (HF.out _ _ (HG.out.after HS5.out.below)).mono ?_
              rintro ed Vd ⟨rfl, hb⟩
              have HS6 := Lib.hid (HS5.out.after hb)
              clear hb HS5 s1 s2 s3
              go_wp2_with fail
              refine (put_c g1 _ _ oa (by have := HLNa.out; have := H4.out; omega) (max x.at_ lo) (do_ x.free) _ (HS6.out.ok 0 _ rfl) HLTa.out).mono ?_
              rintro e6 V6 ⟨rfl, A6, c6, hM⟩
              have HS7 := Lib.hid (HS6.out.call 0 rfl hM)
              clear hM HS6
              obtain ⟨ob, hob⟩ : ∃ ob, ob = putP oa (max x.at_ lo) (do_ x.free) := ⟨_, rfl⟩
              rw [← hob] at HS7
              have HLNob := Lib.hid (show ob.length ≤ oa.length + 1 by rw [hob]; exact putP_len _ _ _)
              have Hob := Lib.hid hob
              clear hob
              obtain ⟨s1, s2, s3⟩ := HS7.out.rules 1 rfl
              have HLTb := Lib.hid (show ∀ s ∈ ob, s.at_ < max x.at_ hi by rw [Hob.out]; exact putP_lt HLTa.out (by omega))
              have HLNb := Lib.hid (show ob.length ≤ 3 * k + 2 by have := HLNob.out; have := HLNa.out; omega)
              have HLTc := Lib.hid (show ∀ s ∈ ob, s.at_ < 2199023255552 by rw [Hob.out]; exact putP_lt HLTa.out (by omega))
              have HT3 := Lib.hid (show turn1 out x.at_ 2199023255552 lo hi x.free do_ = ob by
                unfold turn1
                simp only []
                rw [if_pos (show x.at_ < lo by omega), ← Hoa.out, if_pos (show max x.at_ lo < min 2199023255552 hi by omega), ← Hob.out, if_neg (show ¬ max x.at_ hi < 2199023255552 by omega)])
              rw [HT3.out] at HT2
              go_wp2_with fail
              refine ⟨⟨k + 1, ob, _, _, by omega, by go_num, HT2, Lib.hid (fun hk s hs => ?_), Lib.hid (by have := HLNb.out; omega), Lib.hid (Ms.cut (l := [.out g1 _ _ ob]) (k := [.blk g3 113 _]) HS7.out)⟩, by simp [intOf]; omega⟩
              exact HNK.out hk ▸ HLTc.out s hs
          · go_wp2_with (first
              | (have hq := HC; clear hq; refine wpList_load_ad (by kernel_rfl) 113 _ rfl (ad.add (k * 5)) (spL x) HC.out rfl _ (spV x) rfl Tryd.underlying113 rfl (by kernel_rfl) ?_; clear HC)
              | (have hq := HS2; clear hq; refine wpList_alloc_b rfl (some 12) rfl 113 z5P (by kernel_rfl) ?_; intro g3 W9 hb hB hg; have HS3 := Lib.hid (HS2.out.new hb hB hg); clear hb hB hg HS2 r1 r2 r3)
              | (have hq := HS3; clear hq; refine wpList_store_at rfl 113 _ _ rfl (HS3.out.at_ 1 rfl) (spV x) rfl rfl (by kernel_rfl) (Nat.le_of_ble_eq_true rfl) (by kernel_rfl) ?_; intro W10 hB hP; have HS4 := Lib.hid (HS3.out.put 1 rfl (new := spA x) hB hP); clear hB hP HS3; obtain ⟨r1, r2, r3⟩ := (HH.out.after HS4.out.below).blk.rules; obtain ⟨s1, s2, s3⟩ := HS4.out.rules 1 rfl)
              | (have hq := HS4; clear hq; refine wpList_load_at rfl 24 _ rfl (HS4.out.at_ 1 rfl) 4 (nsV x.free) rfl _ Tryd.underlying24 rfl (by kernel_rfl) (Nat.le_of_ble_eq_true rfl) rfl ?_))
            refine (put_c g1 _ _ out (by have := HLN.out; have := H4.out; omega) x.at_ (x.free) _ (HS4.out.ok 0 _ rfl) HLT2.out).mono ?_
            rintro e4 V4 ⟨rfl, A4, c4, hM⟩
            have HS5 := Lib.hid (HS4.out.call 0 rfl hM)
            clear hM HS4
            obtain ⟨oa, hoa⟩ : ∃ oa, oa = putP out x.at_ (x.free) := ⟨_, rfl⟩
            rw [← hoa] at HS5
            have HLNoa := Lib.hid (show oa.length ≤ out.length + 1 by rw [hoa]; exact putP_len _ _ _)
            have Hoa := Lib.hid hoa
            clear hoa
            obtain ⟨s1, s2, s3⟩ := HS5.out.rules 1 rfl
            clear r1 r2 r3
            have HLTa := Lib.hid (show ∀ s ∈ oa, s.at_ < max x.at_ lo by rw [Hoa.out]; exact putP_lt HLT2.out (by omega))
            have HLNa := Lib.hid (show oa.length ≤ 3 * k + 1 by have := HLNoa.out; have := HLN.out; omega)
            have HLTb := Lib.hid (show ∀ s ∈ oa, s.at_ < max x.at_ hi from fun s hs => by have := HLTa.out s hs; omega)
            have HLTc := Lib.hid (show ∀ s ∈ oa, s.at_ < 2199023255552 by rw [Hoa.out]; exact putP_lt HLT2.out (by have := HXN.out; omega))
            have HT3 := Lib.hid (show turn1 out x.at_ 2199023255552 lo hi x.free do_ = oa by
              unfold turn1
              simp only []
              rw [if_pos (show x.at_ < lo by omega), ← Hoa.out, if_neg (show ¬ max x.at_ lo < min 2199023255552 hi by omega), if_neg (show ¬ max x.at_ hi < 2199023255552 by omega)])
            rw [HT3.out] at HT2
            go_wp2_with fail
            refine ⟨⟨k + 1, oa, _, _, by omega, by go_num, HT2, Lib.hid (fun hk s hs => ?_), Lib.hid (by have := HLNa.out; omega), Lib.hid (Ms.cut (l := [.out g1 _ _ oa]) (k := [.blk g3 113 _]) HS5.out)⟩, by simp [intOf]; omega⟩
            exact HNK.out hk ▸ HLTc.out s hs
        · by_cases hD : x.at_ < hi
          · by_cases hC : hi < 2199023255552
            · have HLTa := Lib.hid (show ∀ s ∈ out, s.at_ < max x.at_ lo from fun s hs => by have := HLT2.out s hs; omega)
              go_wp2_with (first
                | (have hq := HC; clear hq; refine wpList_load_ad (by kernel_rfl) 113 _ rfl (ad.add (k * 5)) (spL x) HC.out rfl _ (spV x) rfl Tryd.underlying113 rfl (by kernel_rfl) ?_; clear HC)
                | (have hq := HS2; clear hq; refine wpList_alloc_b rfl (some 12) rfl 113 z5P (by kernel_rfl) ?_; intro g3 W9 hb hB hg; have HS3 := Lib.hid (HS2.out.new hb hB hg); clear hb hB hg HS2 r1 r2 r3)
                | (have hq := HS3; clear hq; refine wpList_store_at rfl 113 _ _ rfl (HS3.out.at_ 1 rfl) (spV x) rfl rfl (by kernel_rfl) (Nat.le_of_ble_eq_true rfl) (by kernel_rfl) ?_; intro W10 hB hP; have HS4 := Lib.hid (HS3.out.put 1 rfl (new := spA x) hB hP); clear hB hP HS3; obtain ⟨r1, r2, r3⟩ := (HH.out.after HS4.out.below).blk.rules; obtain ⟨s1, s2, s3⟩ := HS4.out.rules 1 rfl)
                | (have hq := HS4; clear hq; refine wpList_load_at rfl 24 _ rfl (HS4.out.at_ 1 rfl) 4 (nsV x.free) rfl _ Tryd.underlying24 rfl (by kernel_rfl) (Nat.le_of_ble_eq_true rfl) rfl ?_))
              rw [HKK.out, Oper.upon_enter]
              refine (HF.out _ _ (HG.out.after HS4.out.below)).mono ?_
              rintro ed Vd ⟨rfl, hb⟩
              have HS5 := Lib.hid (HS4.out.after hb)
              clear r1 r2 r3
              clear hb HS4 s1 s2 s3
              go_wp2_with fail
              refine (put_c g1 _ _ out (by have := HLN.out; have := H4.out; omega) (max x.at_ lo) (do_ x.free) _ (HS5.out.ok 0 _ rfl) HLTa.out).mono ?_
              rintro e5 V5 ⟨rfl, A5, c5, hM⟩
              have HS6 := Lib.hid (HS5.out.call 0 rfl hM)
              clear hM HS5
              obtain ⟨ob, hob⟩ : ∃ ob, ob = putP out (max x.at_ lo) (do_ x.free) := ⟨_, rfl⟩
              rw [← hob] at HS6
              have HLNob := Lib.hid (show ob.length ≤ out.length + 1 by rw [hob]; exact putP_len _ _ _)
              have Hob := Lib.hid hob
              clear hob
              obtain ⟨s1, s2, s3⟩ := HS6.out.rules 1 rfl
              have HLTb := Lib.hid (show ∀ s ∈ ob, s.at_ < max x.at_ hi by rw [Hob.out]; exact putP_lt HLTa.out (by omega))
              have HLNb := Lib.hid (show ob.length ≤ 3 * k + 1 by have := HLNob.out; have := HLN.out; omega)
              go_wp2_with (have hq := HS6; clear hq; refine wpList_load_at rfl 24 _ rfl (HS6.out.at_ 1 rfl) 4 (nsV x.free) rfl _ Tryd.underlying24 rfl (by kernel_rfl) (Nat.le_of_ble_eq_true rfl) rfl ?_)
              refine (put_c g1 _ _ ob (by have := HLNb.out; have := H4.out; omega) (max x.at_ hi) (x.free) _ (HS6.out.ok 0 _ rfl) HLTb.out).mono ?_
              rintro e6 V6 ⟨rfl, A6, c6, hM⟩
              have HS7 := Lib.hid (HS6.out.call 0 rfl hM)
              clear hM HS6
              obtain ⟨oc, hoc⟩ : ∃ oc, oc = putP ob (max x.at_ hi) (x.free) := ⟨_, rfl⟩
              rw [← hoc] at HS7
              have HLNoc := Lib.hid (show oc.length ≤ ob.length + 1 by rw [hoc]; exact putP_len _ _ _)
              have Hoc := Lib.hid hoc
              clear hoc
              obtain ⟨s1, s2, s3⟩ := HS7.out.rules 1 rfl
              have HLTc := Lib.hid (show ∀ s ∈ oc, s.at_ < 2199023255552 by rw [Hoc.out]; exact putP_lt HLTb.out (by omega))
              have HLNc := Lib.hid (show oc.length ≤ 3 * k + 2 by have := HLNoc.out; have := HLNb.out; omega)
              have HT3 := Lib.hid (show turn1 out x.at_ 2199023255552 lo hi x.free do_ = oc by
                unfold turn1
                simp only []
                rw [if_neg (show ¬ x.at_ < lo by omega), if_pos (show max x.at_ lo < min 2199023255552 hi by omega), ← Hob.out, if_pos (show max x.at_ hi < 2199023255552 by omega), ← Hoc.out])
              rw [HT3.out] at HT2
              go_wp2_with fail
              refine ⟨⟨k + 1, oc, _, _, by omega, by go_num, HT2, Lib.hid (fun hk s hs => ?_), Lib.hid (by have := HLNc.out; omega), Lib.hid (Ms.cut (l := [.out g1 _ _ oc]) (k := [.blk g3 113 _]) HS7.out)⟩, by simp [intOf]; omega⟩
              exact HNK.out hk ▸ HLTc.out s hs
            · have HLTa := Lib.hid (show ∀ s ∈ out, s.at_ < max x.at_ lo from fun s hs => by have := HLT2.out s hs; omega)
              go_wp2_with (first
                | (have hq := HC; clear hq; refine wpList_load_ad (by kernel_rfl) 113 _ rfl (ad.add (k * 5)) (spL x) HC.out rfl _ (spV x) rfl Tryd.underlying113 rfl (by kernel_rfl) ?_; clear HC)
                | (have hq := HS2; clear hq; refine wpList_alloc_b rfl (some 12) rfl 113 z5P (by kernel_rfl) ?_; intro g3 W9 hb hB hg; have HS3 := Lib.hid (HS2.out.new hb hB hg); clear hb hB hg HS2 r1 r2 r3)
                | (have hq := HS3; clear hq; refine wpList_store_at rfl 113 _ _ rfl (HS3.out.at_ 1 rfl) (spV x) rfl rfl (by kernel_rfl) (Nat.le_of_ble_eq_true rfl) (by kernel_rfl) ?_; intro W10 hB hP; have HS4 := Lib.hid (HS3.out.put 1 rfl (new := spA x) hB hP); clear hB hP HS3; obtain ⟨r1, r2, r3⟩ := (HH.out.after HS4.out.below).blk.rules; obtain ⟨s1, s2, s3⟩ := HS4.out.rules 1 rfl)
                | (have hq := HS4; clear hq; refine wpList_load_at rfl 24 _ rfl (HS4.out.at_ 1 rfl) 4 (nsV x.free) rfl _ Tryd.underlying24 rfl (by kernel_rfl) (Nat.le_of_ble_eq_true rfl) rfl ?_))
              rw [HKK.out, Oper.upon_enter]
              refine (HF.out _ _ (HG.out.after HS4.out.below)).mono ?_
              rintro ed Vd ⟨rfl, hb⟩
              have HS5 := Lib.hid (HS4.out.after hb)
              clear r1 r2 r3
              clear hb HS4 s1 s2 s3
              go_wp2_with fail
              refine (put_c g1 _ _ out (by have := HLN.out; have := H4.out; omega) (max x.at_ lo) (do_ x.free) _ (HS5.out.ok 0 _ rfl) HLTa.out).mono ?_
              rintro e5 V5 ⟨rfl, A5, c5, hM⟩
              have HS6 := Lib.hid (HS5.out.call 0 rfl hM)
              clear hM HS5
              obtain ⟨ob, hob⟩ : ∃ ob, ob = putP out (max x.at_ lo) (do_ x.free) := ⟨_, rfl⟩
              rw [← hob] at HS6
              have HLNob := Lib.hid (show ob.length ≤ out.length + 1 by rw [hob]; exact putP_len _ _ _)
              have Hob := Lib.hid hob
              clear hob
              obtain ⟨s1, s2, s3⟩ := HS6.out.rules 1 rfl
              have HLTb := Lib.hid (show ∀ s ∈ ob, s.at_ < max x.at_ hi by rw [Hob.out]; exact putP_lt HLTa.out (by omega))
              have HLNb := Lib.hid (show ob.length ≤ 3 * k + 1 by have := HLNob.out; have := HLN.out; omega)
              have HLTc := Lib.hid (show ∀ s ∈ ob, s.at_ < 2199023255552 by rw [Hob.out]; exact putP_lt HLTa.out (by omega))
              have HT3 := Lib.hid (show turn1 out x.at_ 2199023255552 lo hi x.free do_ = ob by
                unfold turn1
                simp only []
                rw [if_neg (show ¬ x.at_ < lo by omega), if_pos (show max x.at_ lo < min 2199023255552 hi by omega), ← Hob.out, if_neg (show ¬ max x.at_ hi < 2199023255552 by omega)])
              rw [HT3.out] at HT2
              go_wp2_with fail
              refine ⟨⟨k + 1, ob, _, _, by omega, by go_num, HT2, Lib.hid (fun hk s hs => ?_), Lib.hid (by have := HLNb.out; omega), Lib.hid (Ms.cut (l := [.out g1 _ _ ob]) (k := [.blk g3 113 _]) HS6.out)⟩, by simp [intOf]; omega⟩
              exact HNK.out hk ▸ HLTc.out s hs
          · have HLTa := Lib.hid (show ∀ s ∈ out, s.at_ < max x.at_ lo from fun s hs => by have := HLT2.out s hs; omega)
            have HLTb := Lib.hid (show ∀ s ∈ out, s.at_ < max x.at_ hi from fun s hs => by have := HLTa.out s hs; omega)
            go_wp2_with (first
              | (have hq := HC; clear hq; refine wpList_load_ad (by kernel_rfl) 113 _ rfl (ad.add (k * 5)) (spL x) HC.out rfl _ (spV x) rfl Tryd.underlying113 rfl (by kernel_rfl) ?_; clear HC)
              | (have hq := HS2; clear hq; refine wpList_alloc_b rfl (some 12) rfl 113 z5P (by kernel_rfl) ?_; intro g3 W9 hb hB hg; have HS3 := Lib.hid (HS2.out.new hb hB hg); clear hb hB hg HS2 r1 r2 r3)
              | (have hq := HS3; clear hq; refine wpList_store_at rfl 113 _ _ rfl (HS3.out.at_ 1 rfl) (spV x) rfl rfl (by kernel_rfl) (Nat.le_of_ble_eq_true rfl) (by kernel_rfl) ?_; intro W10 hB hP; have HS4 := Lib.hid (HS3.out.put 1 rfl (new := spA x) hB hP); clear hB hP HS3; obtain ⟨r1, r2, r3⟩ := (HH.out.after HS4.out.below).blk.rules; obtain ⟨s1, s2, s3⟩ := HS4.out.rules 1 rfl)
              | (have hq := HS4; clear hq; refine wpList_load_at rfl 24 _ rfl (HS4.out.at_ 1 rfl) 4 (nsV x.free) rfl _ Tryd.underlying24 rfl (by kernel_rfl) (Nat.le_of_ble_eq_true rfl) rfl ?_))
            refine (put_c g1 _ _ out (by have := HLN.out; have := H4.out; omega) (max x.at_ hi) (x.free) _ (HS4.out.ok 0 _ rfl) HLTb.out).mono ?_
            rintro e4 V4 ⟨rfl, A4, c4, hM⟩
            have HS5 := Lib.hid (HS4.out.call 0 rfl hM)
            clear hM HS4
            obtain ⟨oc, hoc⟩ : ∃ oc, oc = putP out (max x.at_ hi) (x.free) := ⟨_, rfl⟩
            rw [← hoc] at HS5
            have HLNoc := Lib.hid (show oc.length ≤ out.length + 1 by rw [hoc]; exact putP_len _ _ _)
            have Hoc := Lib.hid hoc
            clear hoc
            obtain ⟨s1, s2, s3⟩ := HS5.out.rules 1 rfl
            clear r1 r2 r3
            have HLTc := Lib.hid (show ∀ s ∈ oc, s.at_ < 2199023255552 by rw [Hoc.out]; exact putP_lt HLTb.out (by omega))
            have HLNc := Lib.hid (show oc.length ≤ 3 * k + 1 by have := HLNoc.out; have := HLN.out; omega)
            have HT3 := Lib.hid (show turn1 out x.at_ 2199023255552 lo hi x.free do_ = oc by
              unfold turn1
              simp only []
              rw [if_neg (show ¬ x.at_ < lo by omega), if_neg (show ¬ max x.at_ lo < min 2199023255552 hi by omega), if_pos (show max x.at_ hi < 2199023255552 by omega), ← Hoc.out])
            rw [HT3.out] at HT2
            go_wp2_with fail
            refine ⟨⟨k + 1, oc, _, _, by omega, by go_num, HT2, Lib.hid (fun hk s hs => ?_), Lib.hid (by have := HLNc.out; omega), Lib.hid (Ms.cut (l := [.out g1 _ _ oc]) (k := [.blk g3 113 _]) HS5.out)⟩, by simp [intOf]; omega⟩
            exact HNK.out hk ▸ HLTc.out s hs
      -- END ROUND
    · obtain rfl : k = l.length := by omega
      have HT2 := HT.out
      rw [List.drop_length] at HT2
      have HT3 := Lib.hid (show out = turnL 2199023255552 lo hi do_ [] l from HT2)
      clear HT2 HT
      rw [HT3.out] at HS2
      obtain ⟨r1, r2, r3⟩ := Blk.rules (HS2.out.ok 0 _ rfl).1
      go_wp2_with fail
      go_ret
      exact ⟨_, _, rfl, HS2.out.rowOf⟩
end Go.Proofs.YtkgphbjneaagoaaDoor
