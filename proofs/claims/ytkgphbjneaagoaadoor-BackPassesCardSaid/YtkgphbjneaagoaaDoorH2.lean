/- Back: the document's profile: Free. -/
import Derived.Test.YtkgphbjneaagoaaDoorH1
set_option linter.unusedVariables false
set_option maxRecDepth 100000
namespace Go.Proofs.YtkgphbjneaagoaaDoor
open Go.RowKit Go.Sort

abbrev inC (x : Int) : List Value := [.int .i64 x]
abbrev rowI := rowS 3 1 inC
theorem inC_nums (l : List Int) : l.flatMap inC = nums l := by
  induction l with
  | nil => rfl
  | cons x l ih => rw [List.flatMap_cons, ih]; rfl
theorem rlist_m (s : NS) (w : World) : Calls Tryd.prog 49 #[nsV s] w fun e w' => ∃ A c, e = .returned (.slice A (lst s).length c) ∧ Ms w noB [rowI A c (lst s)] w' :=
  (rlist_c s w).mono fun e w' ⟨v, h1, h2, h3⟩ => by
    obtain ⟨A, c, rfl⟩ := row_slice h2
    refine ⟨A, c, h1, (Ms.nil w noB).add h3 (o := rowI A c (lst s)) ?_ (fun k hk => ?_)⟩
    · show World.ownsRow w' 0 _ _ _ _ _
      rw [inC_nums]
      exact h2.mono (Nat.zero_le _)
    · rcases h2.2 with ⟨e1, _⟩ | ⟨g, cap, cur, e1, hg, _⟩
      · rw [show (rowI A c (lst s)).bl k = ((Value.slice A (lst s).length c).ownBlock = some k) from rfl, e1] at hk
        cases hk
      · rw [show (rowI A c (lst s)).bl k = ((Value.slice A (lst s).length c).ownBlock = some k) from rfl, e1] at hk
        cases hk
        exact hg
theorem Ms.rdI {w W : World} {ex : Nat → Prop} {L : List Own} (h : Ms w ex L W) (i : Nat) {A : Option Addr} {c : Nat} {l : List Int} (hi : L[i]? = some (rowI A c l)) : ReadsI W A l.length l := by
  have h1 := rowS_read (k := 1) (c := inC) (fun _ => rfl) (h.ok i _ hi)
  refine ⟨rfl, h1.2.1, fun hn => ?_⟩
  obtain ⟨ad, e, hc⟩ := h1.2.2 hn
  refine ⟨ad, e, fun j hj => ?_⟩
  have := hc j l[j] (List.getElem?_eq_getElem hj) 0 _ rfl
  rw [Nat.mul_one, Addr.add_zero'] at this
  rw [this, List.getD_eq_getElem?_getD, List.getElem?_eq_getElem hj]
  rfl
theorem Ms.adI {w W : World} {ex : Nat → Prop} {L : List Own} (h : Ms w ex L W) (i : Nat) {A : Option Addr} {c : Nat} {l : List Int} (hi : L[i]? = some (rowI A c l)) (hn : 0 < l.length) : ∃ ad, A = some ad := by
  obtain ⟨ad, e, _⟩ := (rowS_read (k := 1) (c := inC) (fun _ => rfl) (h.ok i _ hi)).2.2 hn
  exact ⟨ad, e⟩
theorem Ms.cellI {w W : World} {ex : Nat → Prop} {L : List Own} (h : Ms w ex L W) (i : Nat) {ad : Addr} {c : Nat} {l : List Int} (hi : L[i]? = some (rowI (some ad) c l)) {k : Nat} {x : Int} (hk : l[k]? = some x) : W.cell? (ad.add k) = some (.int .i64 x) := by
  obtain ⟨h1, h2⟩ := List.getElem?_eq_some_iff.1 hk
  obtain ⟨ad', e, hc⟩ := (rowS_read (k := 1) (c := inC) (fun _ => rfl) (h.ok i _ hi)).2.2 (by omega)
  cases e
  have := hc k x hk 0 _ rfl
  rwa [Nat.mul_one, Addr.add_zero'] at this
theorem dtaken_b (p : Nat) (up : NS) (first : Int) (A : Option Addr) (n c : Nat) (sp : List Sn) (b t : Int) (r : Bool) (w : World) (hD : DpR w p up first A n c sp) (hr : takenB sp b t = r) :
    Calls Tryd.prog 72 #[.pointer (some ⟨p, 0, none⟩), .int .i64 b, .int .i64 t] w fun e w' => e = .returned (.bool r) ∧ Below w.heap.size w w' := by
  subst hr
  exact dtaken_c p up first A n c sp b t w hD
theorem lst_cnt (up : NS) : (lst up).length ≤ 256 := by
  rw [lst_length]
  have := (show subS up (BitVec.allOnes 256) from fun b hb _ => by rw [BitVec.getLsbD_allOnes]; exact decide_eq_true hb).cnt
  have h2 : cnt (BitVec.allOnes 256) = 256 := by decide +kernel
  omega
set_option maxHeartbeats 16000000 in
theorem dfree_c (p : Nat) (up : NS) (first : Int) (A : Option Addr) (n c : Nat) (sp : List Sn) (t : Int) (w : World) (hD : DpR w p up first A n c sp) (h0 : first ≤ t) (h1 : t < 2199023255552) :
    Calls Tryd.prog 63 #[.pointer (some ⟨p, 0, none⟩), .int .i64 t] w fun e w' => e = .returned (.tuple #[nsV (frD up sp t), .int .i64 0]) ∧ Below w.heap.size w w' := by
  have HP := Lib.hid hD.blk
  have HR := Lib.hid hD.rd
  have HDD := Lib.hid hD
  have hnI : (n : Int) ≤ 2000 := by have := hD.len; omega
  have hf0 := hD.lo.1
  have hf1 := hD.lo.2
  clear hD
  obtain ⟨L, hL⟩ : ∃ L, L = lst up := ⟨_, rfl⟩
  obtain ⟨F, hF⟩ : ∃ F, F = frD up sp t := ⟨_, rfl⟩
  have HF := Lib.hid (show F = ofL (L.filter fun b => !takenB sp b t) by rw [hF, hL]; rfl)
  have HLM := Lib.hid (fun (w : World) => rlist_m up w)
  have HLn := Lib.hid (show L.length ≤ 256 by rw [hL]; exact lst_cnt up)
  rw [← hL] at HLM
  rw [← hF]
  clear hL hF
  go_enter Tryd.func63, Tryd.ntmps63
  have HS0 := Lib.hid (Ms.start (o := Own.blk p 80 (dpA up first A n c)) HP.out)
  go_wp2_with (first
    | (have hq := HS0; clear hq; (with_reducible refine atAlloc ?_); refine wpList_alloc_b rfl (some 4) rfl 24 (#[.int .u64 0, .int .u64 0, .int .u64 0, .int .u64 0]) (by kernel_rfl) ?_; intro g1 W1 hb hB hg; have HS1 := Lib.hid (HS0.out.new hb hB hg); clear hb hB hg HS0; obtain ⟨r0a, r0b, r0c⟩ := HS1.out.rules 0 rfl)
    | (have hq := HS1; clear hq; (with_reducible refine atLoad ?_); refine wpList_load_at rfl 24 _ rfl (HS1.out.at_ 0 rfl) 4 (.agg #[.int .u64 (wn up 0 : Nat), .int .u64 (wn up 1 : Nat), .int .u64 (wn up 2 : Nat), .int .u64 (wn up 3 : Nat)]) rfl _ Tryd.underlying24 rfl (by kernel_rfl) (Nat.le_of_ble_eq_true rfl) rfl ?_))
  refine (HLM.out _).mono ?_
  rintro e W2 ⟨A1, c1, rfl, hM⟩
  have HS2 := Lib.hid (HS1.out.made hM)
  clear hM HS1 r0a r0b r0c
  go_wp2_with fail
  have hLI : (L.length : Int) ≤ 256 := by have := HLn.out; omega
  have HS3 := Lib.hid (HS2.out.nilS 3 1 inC)
  clear HS2
  go_wp2_with fail
  go_loopw [8, 6] (fun k b wr => ∃ (kk : Nat) (A2 : Option Addr) (c2 : Nat), kk ≤ L.length ∧ k = .int .i64 (kk : Nat) ∧ b = .slice A2 ((L.take kk).filter fun b => !takenB sp b t).length c2 ∧ Hid (Ms w (Own.blk p 80 (dpA up first A n c)).bl [(.blk p 80 (dpA up first A n c)), (.blk g1 24 #[.int .u64 0, .int .u64 0, .int .u64 0, .int .u64 0]), rowI A1 c1 L, rowI A2 c2 ((L.take kk).filter fun b => !takenB sp b t)] wr)) (fun k _ _ => L.length - (intOf k).toNat)
  case atStart => exact ⟨0, _, _, by omega, rfl, rfl, HS3⟩
  case round =>
    obtain ⟨k, A2, c2, hkn, rfl, rfl, HS4⟩ := hrel
    by_cases hlt : k < L.length
    · have hltI : (k : Int) < (L.length : Int) := by omega
      obtain ⟨ad, hAe⟩ := HS4.out.adI 2 rfl (by omega)
      subst hAe
      obtain ⟨x, hx⟩ : ∃ x, L[k]? = some x := ⟨_, List.getElem?_eq_getElem hlt⟩
      have HX := Lib.hid hx
      obtain ⟨R, hR⟩ : ∃ R, R = ((L.take k).filter fun b => !takenB sp b t) := ⟨_, rfl⟩
      have HRe := Lib.hid hR
      rw [← hR] at HS4
      try rw [← hR]
      have HRL := Lib.hid (show (R.length + 1) * 8 ≤ 140737488355328 by
        rw [hR]
        have h1 := List.length_filter_le (fun b => !takenB sp b t) (L.take k)
        have h2 := List.length_take_le' k L
        have := HLn.out
        omega)
      clear hR hx
      have e0 := HS4.out.cellI 2 rfl HX.out
      cases htk : takenB sp x t with
      | true =>
        have HTK := Lib.hid htk
        clear htk
        have HN := Lib.hid (show ((L.take (k + 1)).filter fun b => !takenB sp b t) = R by rw [take_one HX.out, List.filter_append, HRe.out]; simp [HTK.out])
        go_wp2_with fail
        refine (dtaken_b p up first A n c sp x t true _ (HDD.out.below (HS4.out.still HP.out)) HTK.out).mono ?_
        rintro e W5 ⟨rfl, hb⟩
        have HS5 := Lib.hid (HS4.out.after hb)
        clear hb HS4
        clear e0
        have e0 := HS5.out.cellI 2 rfl HX.out
        go_wp2_with fail
        refine ⟨⟨k + 1, A2, c2, by omega, by go_num, by rw [HN.out], ?_⟩, by simp [intOf]; omega⟩
        rw [HN.out]
        exact Lib.hid (Ms.cut (l := [(.blk p 80 (dpA up first A n c)), (.blk g1 24 #[.int .u64 0, .int .u64 0, .int .u64 0, .int .u64 0]), rowI (some ad) c1 L, rowI A2 c2 R]) (k := []) HS5.out)
      | false =>
        have HTK := Lib.hid htk
        clear htk
        have HN := Lib.hid (show ((L.take (k + 1)).filter fun b => !takenB sp b t) = R ++ [x] by rw [take_one HX.out, List.filter_append, HRe.out]; simp [HTK.out])
        go_wp2_with fail
        refine (dtaken_b p up first A n c sp x t false _ (HDD.out.below (HS4.out.still HP.out)) HTK.out).mono ?_
        rintro e W5 ⟨rfl, hb⟩
        have HS5 := Lib.hid (HS4.out.after hb)
        clear hb HS4
        clear e0
        have e0 := HS5.out.cellI 2 rfl HX.out
        go_wp2_with (first
          | (have hq := HS5; clear hq; (with_reducible refine atBuild ?_); refine wpList_build_b rfl (some 44) rfl 3 1 (#[.int .i64 x]) (by kernel_rfl) ?_; intro g6 W6 hb hB hg; have HS6 := Lib.hid (HS5.out.new hb hB hg); clear hb hB hg HS5)
          | (have hq := HS6; clear hq; refine append_one HS6.out 3 4 rfl _ _ 103 3 1 8 inC (.int .i64 0) rfl Tryd.underlying103 (by kernel_rfl) rfl (by decide) A2 c2 R x g6 _ _ rfl rfl rfl rfl rfl rfl rfl (HRL.out) (by simp only [maxLen]; have := HRL.out; omega) ?_; intro A7 c7 W7 hM; have HS7 := Lib.hid hM; clear hM HS6))
        refine ⟨⟨k + 1, A7, c7, by omega, by go_num, by rw [HN.out, show (R ++ [x]).length = R.length + 1 by simp], ?_⟩, by simp [intOf]; omega⟩
        rw [HN.out]
        exact Lib.hid (Ms.cut (l := [(.blk p 80 (dpA up first A n c)), (.blk g1 24 #[.int .u64 0, .int .u64 0, .int .u64 0, .int .u64 0]), rowI (some ad) c1 L, rowS 3 1 inC A7 c7 (R ++ [x])]) (k := [(.blk g6 3 #[.int .i64 x])]) HS7.out)
    · obtain rfl : k = L.length := by omega
      have HQ := HS4.out
      rw [List.take_length] at HQ
      obtain ⟨R, hR⟩ : ∃ R, R = L.filter fun b => !takenB sp b t := ⟨_, rfl⟩
      have HFR := Lib.hid (show F = ofL R by rw [HF.out, hR])
      try rw [List.take_length]
      try rw [← hR]
      rw [← hR] at HQ
      have HS5 := Lib.hid HQ
      clear HQ HS4 hR
      go_wp2_with fail
      refine (rof_c A2 R.length c2 R _ (HS5.out.rdI 3 rfl)).mono ?_
      rintro e W6 ⟨rfl, hb⟩
      have HS6 := Lib.hid (HS5.out.after hb)
      clear hb HS5
      rw [← HFR.out]
      go_wp2_with (have hq := HS6; clear hq; (with_reducible refine atStore ?_); refine wpList_store_at rfl 24 _ _ rfl (HS6.out.at_ 1 rfl) (nsV F) rfl rfl (by kernel_rfl) (Nat.le_of_ble_eq_true rfl) (by kernel_rfl) ?_; intro W7 hB hP; have HS7 := Lib.hid (HS6.out.put 1 rfl (new := (nsA F)) hB hP); clear hB hP HS6)
      exact post_cell_tmp (x := .int .i64 0) rfl rfl rfl (HS7.out.at_ 1 rfl) Tryd.underlying24 rfl (by kernel_rfl) rfl ⟨rfl, HS7.out.still HP.out⟩
end Go.Proofs.YtkgphbjneaagoaaDoor
