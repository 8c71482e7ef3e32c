/- Back: the document's profile: ends. -/
import Derived.Test.YtkgphbjneaagoaaDoorH2
import Derived.Test.YtkgphbjneaagoaaDoorGp
import Derived.Deep.RegionHeld3
set_option linter.unusedVariables false
set_option maxRecDepth 100000
namespace Go.Proofs.YtkgphbjneaagoaaDoor
open Go.RowKit Go.Sort

/-- The run of append(s, x...): x a slice that is read, or nil; s a row that is owned. -/
theorem run_rd {α : Type} {P : Program} {w W : World} {ex : Nat → Prop} {L : List Own} (h : Ms w ex L W) (i : Nat) (t ty e : TypeId) (k bytes : Nat) (c : α → List Value) (z : Value)
    (hu : P.underlying t = some (.slice e)) (hinfo : (P.info? e).map (fun i => (i.zero, i.size, i.bytes)) = some (some z, k, bytes)) (hzs : z.cells.size = k) (hsz : 0 < k)
    (A : Option Addr) (cap : Nat) (l : List α) (ln : Nat) (hln : l.length = ln) (A2 : Option Addr) (n2 c2 : Nat) (l2 : List α) (zs : List α) (n' : Nat) (hzs' : l ++ l2 = zs) (hn' : zs.length = n') (hrow : L[i]? = some (rowS e k c A cap l))
    (hR : RdS k c W A2 n2 l2) (hk : ∀ x, (c x).length = k) (h1 : ∀ x, (c x).all (·.oneCell') = true) (hlen : (ln + n2) * bytes ≤ 140737488355328) (hmax : ln + n2 ≤ maxLen) :
    ∃ A' c' W', (Builtin.append_ #[t, t] ty #[.slice A ln cap, .slice A2 n2 c2]).run P W = .ok (.slice A' n' c') W' ∧ Ms w ex (L.set i (rowS e k c A' c' zs)) W' := by
  subst hln
  subst hzs'
  subst hn'
  obtain ⟨i0, hi, hzz⟩ := Option.map_eq_some_iff.1 hinfo
  simp only [Prod.mk.injEq] at hzz
  obtain ⟨hz0, hz1, hz2⟩ := hzz
  cases A2 with
  | some ad =>
    have hys : (l2.flatMap c).length = n2 * k := by rw [flat_len hk, hR.1]
    obtain ⟨v', w', hr, h2, h3, _, h5⟩ := run_append_own_at (P := P) W 0 t ty e i0 z k bytes hu hi hz0 hz1 hz2 hzs hsz _ l.length _ (h.own i hrow) ad n2 c2 (l2.flatMap c) hys (fun j u hj => by
      obtain ⟨b, y, r, h2, h3, rfl⟩ := flat_split hk hsz l2 j u hj
      have hn : 0 < n2 := by have := (List.getElem?_eq_some_iff.1 h2).1; have := hR.1; omega
      obtain ⟨ad', e1, hc⟩ := hR.2.2 hn
      cases e1
      rw [← Addr.add_add]
      exact hc b y h2 r u h3) (fun u hu => by
      obtain ⟨y, hy, hu2⟩ := List.mem_flatMap.1 hu
      exact List.all_eq_true.1 (h1 y) u hu2) hmax hlen (Nat.zero_le _)
    obtain ⟨A', c', rfl⟩ := row_slice h2
    have e2 : l.length + n2 = (l ++ l2).length := by rw [List.length_append, hR.1]
    rw [e2, ← List.flatMap_append] at h2
    rw [e2] at hr h5
    refine ⟨A', c', w', hr, h.grown i hrow h2 h3 ?_⟩
    rcases h5 with h5 | h5
    · exact .inl h5
    · exact .inr (.inl h5)
  | none =>
    have hn : n2 = 0 := by
      rcases Nat.eq_zero_or_pos n2 with h2 | h2
      · exact h2
      · obtain ⟨ad', e1, _⟩ := hR.2.2 h2
        cases e1
    subst hn
    have hl2 : l2 = [] := List.eq_nil_of_length_eq_zero hR.1
    subst hl2
    have hcap := rowS_cap (h.ok i _ hrow)
    have hr := run_append_nothing (P := P) W t t ty e i0 hu hi A l.length cap hcap.1 (.slice none 0 c2) (Src.ofNil W hu c2)
    refine ⟨A, cap, W, by rw [List.append_nil]; exact hr, ?_⟩
    rw [List.append_nil]
    have e2 : L.set i (rowS e k c A cap l) = L := by
      refine List.ext_getElem? fun j => ?_
      rw [List.getElem?_set]
      split
      · rename_i hj
        subst hj
        split
        · exact hrow.symm
        · rename_i hlt
          rw [List.getElem?_eq_none (by omega)]
      · rfl
    rw [e2]
    exact h
/-- append over []int. -/
theorem run_ints {w W : World} {ex : Nat → Prop} {L : List Own} (h : Ms w ex L W) (i : Nat) (A : Option Addr) (cap : Nat) (l : List Int) (ln : Nat) (hln : l.length = ln) (A2 : Option Addr) (n2 c2 : Nat) (l2 zs : List Int) (n' : Nat) (hzs' : l ++ l2 = zs) (hn' : zs.length = n') (hrow : L[i]? = some (rowI A cap l))
    (hR : RdS 1 inC W A2 n2 l2) (hlen : ln + n2 ≤ 100000) :
    ∃ A' c' W', (Builtin.append_ #[103, 103] 103 #[.slice A ln cap, .slice A2 n2 c2]).run Tryd.prog W = .ok (.slice A' n' c') W' ∧ Ms w ex (L.set i (rowI A' c' zs)) W' :=
  run_rd h i 103 103 3 1 8 inC (.int .i64 0) Tryd.underlying103 (by kernel_rfl) rfl (by decide) A cap l ln hln A2 n2 c2 l2 zs n' hzs' hn' hrow hR (fun _ => rfl) (fun _ => rfl) (by omega) (by simp only [maxLen]; omega)
theorem Ms.rdS1 {w W : World} {ex : Nat → Prop} {L : List Own} (h : Ms w ex L W) (i : Nat) {A : Option Addr} {c n : Nat} {l : List Int} (hi : L[i]? = some (rowI A c l)) (hn : l.length = n) : RdS 1 inC W A n l := hn ▸ rowS_read (k := 1) (c := inC) (fun _ => rfl) (h.ok i _ hi)
theorem rd_empty {k : Nat} {α : Type} {c : α → List Value} (w : World) (A : Option Addr) : RdS k c w A 0 ([] : List α) := ⟨rfl, by omega, fun h => absurd h (by omega)⟩
theorem rd_dropL {w : World} {bd : Addr} {n : Nat} {l : List Int} (h : RdS 1 inC w (some bd) n l) {i : Nat} (hi : i < n) : RdS 1 inC w (some (bd.add i)) (n - i) (l.drop i) := by
  refine ⟨by rw [List.length_drop, h.1], by have := h.2.1; omega, fun _ => ⟨_, rfl, fun j x hx u v hv => ?_⟩⟩
  obtain ⟨ad, e, hc⟩ := h.2.2 (by omega)
  cases e
  rw [List.getElem?_drop] at hx
  have := hc (i + j) x hx u v hv
  rwa [Nat.add_mul, ← Addr.add_add, Nat.mul_one] at this
theorem rd_dropE {w : World} {A : Option Addr} (l : List Int) {i : Nat} (hi : l.length ≤ i) : RdS 1 inC w A (l.length - i) (l.drop i) := by
  rw [List.drop_eq_nil_of_le hi, Nat.sub_eq_zero_of_le hi]
  exact rd_empty w A
theorem rd_one {w : World} {g : Nat} {t : TypeId} {x : Int} (h : Blk w g t #[.int .i64 x]) : RdS 1 inC w (some ⟨g, 0, none⟩) 1 [x] := rds_blk (k := 1) (c := inC) (l := [x]) (fun _ => rfl) h (by simp) rfl
theorem Ms.stillM {w W : World} {p : Nat} {t : TypeId} {cs : Array Value} {L : List Own} (h : Ms w (Own.blk p t cs).bl (.blk p t cs :: L) W) (hB : Blk w p t cs) : Ms w noB L W := by
  have hb := h.still hB
  refine ⟨fun i o hi => h.ok (i + 1) o (by simpa using hi), fun i o hi k hk => ?_, fun i j a b hi hj hij => h.apart (i + 1) (j + 1) a b (by simpa using hi) (by simpa using hj) (by omega), Turn.of_below hb⟩
  rcases h.lo (i + 1) o (by simpa using hi) k hk with h1 | h1
  · exact .inl h1
  · exact absurd hk (h.apart 0 (i + 1) (.blk p t cs) o rfl (by simpa using hi) (by omega) k h1)
theorem pts_at {sp : List Sn} {j : Nat} {s : Sn} (h : sp[j]? = some s) : (pts sp)[2 * j]? = some s.lo ∧ (pts sp)[2 * j + 1]? = some s.hi := by
  have key : ∀ (sp : List Sn) (j : Nat), sp[j]? = some s → (pts sp)[2 * j]? = some s.lo ∧ (pts sp)[2 * j + 1]? = some s.hi := by
    intro sp
    induction sp with
    | nil => intro j h; simp at h
    | cons x sp ih =>
      intro j h
      have e : pts (x :: sp) = x.lo :: x.hi :: pts sp := rfl
      rw [e]
      cases j with
      | zero => simp at h; subst h; simp
      | succ j =>
        have := ih j (by simpa using h)
        rw [show 2 * (j + 1) = (2 * j) + 1 + 1 by omega, show (2 * j) + 1 + 1 + 1 = (2 * j + 1) + 1 + 1 by omega]
        simpa using this
  exact key sp j h
theorem pos_of {E : List Int} {t : Int} {q : Nat} (hq : q ≤ E.length) (h1 : ∀ x ∈ E.take q, x < t) (h2 : q = E.length ∨ ∃ y, E[q]? = some y ∧ ¬ y < t) : posI E t = q := by
  unfold posI
  have e : E = E.take q ++ E.drop q := (List.take_append_drop _ _).symm
  have h3 : (E.drop q).takeWhile (fun x => decide (x < t)) = [] := by
    rcases h2 with h2 | ⟨y, hy, hn⟩
    · rw [List.drop_eq_nil_of_le (by omega)]; rfl
    · obtain ⟨h4, h5⟩ := List.getElem?_eq_some_iff.1 hy
      rw [List.drop_eq_getElem_cons h4, h5, List.takeWhile_cons, if_neg (by simpa using hn)]
  conv => lhs; rw [e]
  rw [List.takeWhile_append_of_pos (fun x hx => by simpa using h1 x hx), h3, List.append_nil, List.length_take]
  omega
theorem wrap_small {x : Int} (h0 : 0 ≤ x) (h1 : x ≤ 9223372036854775807) : IntKind.i64.wrap x = x := by
  simp only [IntKind.wrap, IntKind.signed, IntKind.bits]
  simp
  omega
theorem ins_same {E : List Int} {t : Int} (h : E[posI E t]? = some t ∨ 2199023255552 ≤ t) : insE E t = E := by unfold insE; rw [if_pos h]
theorem ins_new {E : List Int} {t : Int} {q : Nat} (hq : posI E t = q) (h1 : ¬ E[q]? = some t) (h2 : t < 2199023255552) : insE E t = E.take q ++ [t] ++ E.drop q := by
  unfold insE
  rw [hq, if_neg (fun h => h.elim h1 (fun h3 => absurd h2 (by omega))), List.append_assoc]
  rfl
theorem fold_take {E0 l : List Int} {k : Nat} {t : Int} (h : l[k]? = some t) : (l.take (k + 1)).foldl insE E0 = insE ((l.take k).foldl insE E0) t := by rw [take_one h, List.foldl_append]; rfl
theorem ends_len (first : Int) (l : List Int) : (l.foldl insE [first]).length ≤ 1 + l.length ∧ 0 < (l.foldl insE [first]).length := by
  have h := ends_fold l (E := [first]) (List.pairwise_singleton _ _)
  have h1 : first ∈ l.foldl insE [first] := (h.2.1 first).2 (.inl (by simp))
  exact ⟨h.2.2, List.length_pos_of_mem h1⟩
set_option maxHeartbeats 64000000 in
theorem dends_c (p : Nat) (up : NS) (first : Int) (A : Option Addr) (n c : Nat) (sp : List Sn) (w : World) (hD : DpR w p up first A n c sp) :
    Calls Tryd.prog 61 #[.pointer (some ⟨p, 0, none⟩)] w fun e w' => ∃ A' c', e = .returned (.slice A' (endsL first sp).length c') ∧ Ms w noB [rowI A' c' (endsL first sp)] w' := by
  have HP := Lib.hid hD.blk
  have HR := Lib.hid hD.rd
  have HDD := Lib.hid hD
  have hnI : (n : Int) ≤ 2000 := by have := hD.len; omega
  have hf0 := hD.lo.1
  have hf1 := hD.lo.2
  clear hD
  obtain ⟨PT, hPT⟩ : ∃ PT, PT = pts sp := ⟨_, rfl⟩
  have HPT := Lib.hid hPT
  have HPl := Lib.hid (show PT.length = 2 * n by rw [hPT, pts_len, HR.out.1])
  have HEE := Lib.hid (show endsL first sp = PT.foldl insE [first] by rw [hPT]; rfl)
  obtain ⟨EF, hEF⟩ : ∃ EF, EF = endsL first sp := ⟨_, rfl⟩
  rw [← hEF] at HEE ⊢
  clear hPT hEF
  go_enter Tryd.func61, Tryd.ntmps61
  have HS0 := Lib.hid (Ms.start (o := Own.blk p 80 (dpA up first A n c)) HP.out)
  obtain ⟨r0a, r0b, r0c⟩ := HS0.out.rules 0 rfl
  go_wp2_with (have hq := HS0; clear hq; (with_reducible refine atBuild ?_); refine wpList_build_b rfl (some 11) rfl 3 1 (#[.int .i64 first]) (by kernel_rfl) ?_; intro g1 W1 hb hB hg; have HS1 := Lib.hid (HS0.out.newRow hb hB hg (n := 1) (size := 1) rfl (by decide)); clear hb hB hg HS0; clear r0a r0b r0c)
  go_loopw [4, 3] (fun i b wr => ∃ (kk : Nat) (A3 : Option Addr) (c3 : Nat), kk ≤ 2 * n ∧ i = .int .i64 (kk : Nat) ∧ b = .slice A3 ((PT.take kk).foldl insE [first]).length c3 ∧ Hid (Ms w (Own.blk p 80 (dpA up first A n c)).bl [(.blk p 80 (dpA up first A n c)), rowI A3 c3 ((PT.take kk).foldl insE [first])] wr)) (fun i _ _ => 2 * n - (intOf i).toNat)
  case atStart => exact ⟨0, _, _, by omega, rfl, rfl, HS1⟩
  case round =>
    obtain ⟨k, A3, c3, hkn, rfl, rfl, HS2⟩ := hrel
    obtain ⟨R, hR⟩ : ∃ R, R = ((PT.take k).foldl insE [first]) := ⟨_, rfl⟩
    have HRe := Lib.hid hR
    rw [← hR] at HS2
    try rw [← hR]
    have HRl := Lib.hid (show R.length ≤ 4001 ∧ 0 < R.length by
      rw [hR]
      have h1 := ends_len first (PT.take k)
      have h2 := List.length_take_le' k PT
      have := HPl.out
      omega)
    clear hR
    have hR4 : (R.length : Int) ≤ 4001 := by have := HRl.out; omega
    by_cases hlt : k < 2 * n
    · have hltI : (k : Int) < 2 * (n : Int) := by omega
      obtain ⟨j, hj⟩ : ∃ j, j = k / 2 := ⟨_, rfl⟩
      have hjn : j < n := by omega
      have hjI : (j : Int) < (n : Int) := by omega
      obtain ⟨bd, hBe⟩ := HS2.out.adI 1 rfl HRl.out.2
      subst hBe
      obtain ⟨ad, s, hAe, hs, hc⟩ := (HR.out.below (HS2.out.still HP.out)).at_ hjn
      subst hAe
      have e1 := hc 1 _ rfl
      have e2 := hc 2 _ rfl
      rw [add_some _ (by omega)] at e1 e2
      have HSS := Lib.hid hs
      have HSP := Lib.hid (pts_at hs)
      clear hc hs
      have hq1 : (k : Int).tdiv 2 = (j : Int) := by rw [Int.tdiv_eq_ediv_of_nonneg (by omega)]; omega
      have hq2 : IntKind.i64.wrap (j : Int) = (j : Int) := wrap_small (by omega) (by omega)
      have hkj : 2 * j + k % 2 = k := by omega
      have HKJ := Lib.hid hkj
      clear hkj
      subst hj
      by_cases hpar : k % 2 = 1
      · have hr1 : (k : Int) % 2 = 1 := by omega
        have hr2 : (k : Int).tmod 2 = 1 := by rw [Int.tmod_eq_emod_of_nonneg (by omega)]; omega
        have HT := Lib.hid (show PT[k]? = some s.hi by have h := HSP.out.2; rw [HPT.out]; rwa [show 2 * (k / 2) + 1 = k by omega] at h)
        obtain ⟨r0a, r0b, r0c⟩ := HS2.out.rules 0 rfl
        go_wp2_with fail
        clear hq1 hq2 hr1 hr2 e1 e2
        clear r0a r0b r0c
        obtain ⟨t, ht⟩ : ∃ t, t = s.hi := ⟨_, rfl⟩
        rw [← ht] at HT ⊢
        clear ht
        have HNX := Lib.hid (show ((PT.take (k + 1)).foldl insE [first]) = insE R t by rw [fold_take HT.out, HRe.out])
        go_loopw [6] (fun q wr => ∃ kk : Nat, kk ≤ R.length ∧ q = .int .i64 (kk : Nat) ∧ Hid (∀ x ∈ R.take kk, x < t) ∧ Hid (Ms w (Own.blk p 80 (dpA up first (some ad) n c)).bl [(.blk p 80 (dpA up first (some ad) n c)), rowI (some bd) c3 R] wr)) (fun q _ => R.length - (intOf q).toNat)
        case atStart => exact ⟨0, by omega, rfl, Lib.hid (fun x hx => by simp at hx), HS2⟩
        case round =>
          obtain ⟨q, hqn, rfl, HLT, HS3⟩ := hrel
          by_cases hq : q < R.length
          · have hqI : (q : Int) < (R.length : Int) := by omega
            obtain ⟨y, hy⟩ : ∃ y, R[q]? = some y := ⟨_, List.getElem?_eq_getElem hq⟩
            have e3 := HS3.out.cellI 1 rfl hy
            have HY := Lib.hid hy
            clear hy
            by_cases hyt : y < t
            · have HLN := Lib.hid (show ∀ x ∈ R.take (q + 1), x < t from fun x hx => by
                rw [take_one HY.out] at hx
                rcases List.mem_append.1 hx with h | h
                · exact HLT.out x h
                · simp at h; subst h; exact hyt)
              go_wp2_with fail
              exact ⟨⟨q + 1, by omega, by go_num, HLN, HS3⟩, by simp [intOf]; omega⟩
            · have hyt2 : t ≤ y := by omega
              have HPOS := Lib.hid (pos_of (by omega) HLT.out (.inr ⟨y, HY.out, hyt⟩))
              by_cases hye : y = t
              · have HEQ := Lib.hid hye
                have hye1 : (y == t) = true := beq_iff_eq.2 hye
                clear hye
                have HN := Lib.hid (HNX.out.trans (ins_same (.inl (by rw [HPOS.out, HY.out, HEQ.out]))))
                go_wp2_with fail
                refine ⟨⟨k + 1, some bd, c3, by omega, by go_num, by rw [HN.out], ?_⟩, by simp [intOf]; omega⟩
                rw [HN.out]
                exact HS3
              · have hye1 : (y == t) = false := beq_false_of_ne hye
                have HNE := Lib.hid (show ¬ R[q]? = some t by rw [HY.out]; intro h; exact hye (Option.some.inj h))
                by_cases hend : 2199023255552 ≤ t
                · have HN := Lib.hid (HNX.out.trans (ins_same (.inr hend)))
                  go_wp2_with fail
                  refine ⟨⟨k + 1, some bd, c3, by omega, by go_num, by rw [HN.out], ?_⟩, by simp [intOf]; omega⟩
                  rw [HN.out]
                  exact HS3
                · have HLE := Lib.hid (show t < 2199023255552 by omega)
                  have hend2 : t < 2199023255552 := by omega
                  have hcq : ¬ c3 = q := by have := (rowS_cap (HS3.out.ok 1 _ rfl)).1; omega
                  clear hye
                  go_wp2_with fail
                  clear e3 hye1
                  have hqc : (q : Int) ≤ (c3 : Int) := by have := (rowS_cap (HS3.out.ok 1 _ rfl)).1; omega
                  have hq0 : (0 : Int) ≤ (q : Int) := by omega
                  have hql : (q : Int) ≤ (R.length : Int) := by omega
                  have HQ := Lib.hid (show (R.take q).length = q by rw [List.length_take]; omega)
                  have HQ1 := Lib.hid (show (R.take q ++ [t]).length = q + 1 by rw [List.length_append, HQ.out]; rfl)
                  have HQ2 := Lib.hid (show (R.take q ++ [t] ++ R.drop q).length = R.length + 1 by rw [List.length_append, HQ1.out, List.length_drop]; omega)
                  have HN := Lib.hid (HNX.out.trans (ins_new HPOS.out HNE.out HLE.out))
                  have HNl := Lib.hid (show ((PT.take (k + 1)).foldl insE [first]).length = R.length + 1 by rw [HN.out]; exact HQ2.out)
                  have HB4 := Lib.hid HRl.out.1
                  have HSd := Lib.hid ((HS3.out.after (Below.refl _ _).drew).nilS 3 1 inC)
                  have HSb := Lib.hid ((HS3.out.new (alloc_b wr (.cells #[.int .i64 t] 3)) (Blk.newd wr 3 #[.int .i64 t]) (Nat.le_refl _)).nilS 3 1 inC)
                  refine Exists.elim (run_ints HSd.out 2 none 0 [] 0 rfl (some bd) q c3 (R.take q) (R.take q) q rfl HQ.out rfl ((HSd.out.rdS1 1 rfl rfl).take (by omega)) (by have := HB4.out; omega)) ?_
                  rintro A5 ⟨c5, X5, hr1, hM1⟩
                  have hM1b := hM1.new (W' := X5.alloc (.cells #[.int .i64 t] 3)) ((Below.refl _ _).alloc (Nat.le_refl _) _) (Blk.new X5 3 #[.int .i64 t]) (Nat.le_refl _)
                  refine Exists.elim (run_ints hM1b 2 A5 c5 (R.take q) q HQ.out (some ⟨X5.heap.size, 0, none⟩) 1 1 [t] (R.take q ++ [t]) (q + 1) rfl HQ1.out rfl (rd_one (hM1b.at_ 3 rfl)) (by have := HB4.out; omega)) ?_
                  rintro A6 ⟨c6, X6, hr2, hM2⟩
                  refine Exists.elim (run_ints hM2 2 A6 c6 (R.take q ++ [t]) (q + 1) HQ1.out (some (bd.add q)) (R.length - q) (c3 - q) (R.drop q) (R.take q ++ [t] ++ R.drop q) (R.length + 1) rfl HQ2.out rfl (rd_dropL (hM2.rdS1 1 rfl rfl) hq) (by have := HB4.out; omega)) ?_
                  rintro A7 ⟨c7, X7, hr3, hM3⟩
                  refine Exists.elim (run_ints HSb.out 3 none 0 [] 0 rfl (some bd) q c3 (R.take q) (R.take q) q rfl HQ.out rfl ((HSb.out.rdS1 1 rfl rfl).take (by omega)) (by have := HB4.out; omega)) ?_
                  rintro B5 ⟨d5, V5, hs1, hK1⟩
                  refine Exists.elim (run_ints hK1 3 B5 d5 (R.take q) q HQ.out (some ⟨wr.heap.size, 0, none⟩) 1 1 [t] (R.take q ++ [t]) (q + 1) rfl HQ1.out rfl (rd_one (hK1.at_ 2 rfl)) (by have := HB4.out; omega)) ?_
                  rintro B6 ⟨d6, V6, hs2, hK2⟩
                  refine Exists.elim (run_ints hK2 3 B6 d6 (R.take q ++ [t]) (q + 1) HQ1.out (some (bd.add q)) (R.length - q) (c3 - q) (R.drop q) (R.take q ++ [t] ++ R.drop q) (R.length + 1) rfl HQ2.out rfl (rd_dropL (hK2.rdS1 1 rfl rfl) hq) (by have := HB4.out; omega)) ?_
                  rintro B7 ⟨d7, V7, hs3, hK3⟩
                  rw [← HN.out] at hM3 hK3
                  have HF1 := Lib.hid (hM3.two 0 2 rfl rfl (by decide))
                  have HF2 := Lib.hid (hK3.two 0 3 rfl rfl (by decide))
                  clear hM1 hM1b hM2 hM3 hK1 hK2 hK3 HSd HSb
                  have Hhr1 := Lib.hid (fun (o : Oper) (a : Act) (K : Act → World → Prop) (Q : Exit → Act → World → Prop) (s x : Operand) (ho : o.op = .call { callee := .builtin .append, args := #[s, x], argTypes := #[103, 103] }) (hot : o.type = 103) (hs : a.eval s = (.slice none 0 0)) (hx : a.eval x = (.slice (some bd) q c3)) (hK : K (a.put o.dst (.slice A5 q c5)) X5) => (wp_append s x 103 ho _ _ hs hx _ (by rw [hot]; exact hr1) hK : o.wp Tryd.prog a wr.drew K Q))
                  have Hhr2 := Lib.hid (fun (o : Oper) (a : Act) (K : Act → World → Prop) (Q : Exit → Act → World → Prop) (s x : Operand) (ho : o.op = .call { callee := .builtin .append, args := #[s, x], argTypes := #[103, 103] }) (hot : o.type = 103) (hs : a.eval s = (.slice A5 q c5)) (hx : a.eval x = (.slice (some ⟨X5.heap.size, 0, none⟩) 1 1)) (hK : K (a.put o.dst (.slice A6 (q + 1) c6)) X6) => (wp_append s x 103 ho _ _ hs hx _ (by rw [hot]; exact hr2) hK : o.wp Tryd.prog a (X5.alloc (.cells #[.int .i64 t] 3)) K Q))
                  have Hhr3 := Lib.hid (fun (o : Oper) (a : Act) (K : Act → World → Prop) (Q : Exit → Act → World → Prop) (s x : Operand) (ho : o.op = .call { callee := .builtin .append, args := #[s, x], argTypes := #[103, 103] }) (hot : o.type = 103) (hs : a.eval s = (.slice A6 (q + 1) c6)) (hx : a.eval x = (.slice (some (bd.add q)) (R.length - q) (c3 - q))) (hK : K (a.put o.dst (.slice A7 (R.length + 1) c7)) X7) => (wp_append s x 103 ho _ _ hs hx _ (by rw [hot]; exact hr3) hK : o.wp Tryd.prog a X6 K Q))
                  have Hhs1 := Lib.hid (fun (o : Oper) (a : Act) (K : Act → World → Prop) (Q : Exit → Act → World → Prop) (s x : Operand) (ho : o.op = .call { callee := .builtin .append, args := #[s, x], argTypes := #[103, 103] }) (hot : o.type = 103) (hs : a.eval s = (.slice none 0 0)) (hx : a.eval x = (.slice (some bd) q c3)) (hK : K (a.put o.dst (.slice B5 q d5)) V5) => (wp_append s x 103 ho _ _ hs hx _ (by rw [hot]; exact hs1) hK : o.wp Tryd.prog a ((wr.alloc (.cells #[.int .i64 t] 3)).drew) K Q))
                  have Hhs2 := Lib.hid (fun (o : Oper) (a : Act) (K : Act → World → Prop) (Q : Exit → Act → World → Prop) (s x : Operand) (ho : o.op = .call { callee := .builtin .append, args := #[s, x], argTypes := #[103, 103] }) (hot : o.type = 103) (hs : a.eval s = (.slice B5 q d5)) (hx : a.eval x = (.slice (some ⟨wr.heap.size, 0, none⟩) 1 1)) (hK : K (a.put o.dst (.slice B6 (q + 1) d6)) V6) => (wp_append s x 103 ho _ _ hs hx _ (by rw [hot]; exact hs2) hK : o.wp Tryd.prog a V5 K Q))
                  have Hhs3 := Lib.hid (fun (o : Oper) (a : Act) (K : Act → World → Prop) (Q : Exit → Act → World → Prop) (s x : Operand) (ho : o.op = .call { callee := .builtin .append, args := #[s, x], argTypes := #[103, 103] }) (hot : o.type = 103) (hs : a.eval s = (.slice B6 (q + 1) d6)) (hx : a.eval x = (.slice (some (bd.add q)) (R.length - q) (c3 - q))) (hK : K (a.put o.dst (.slice B7 (R.length + 1) d7)) V7) => (wp_append s x 103 ho _ _ hs hx _ (by rw [hot]; exact hs3) hK : o.wp Tryd.prog a V6 K Q))
                  go_region_held3 (fun _ => True) (exact trivial) (first | (rw [if_pos (by rfl)]; refine Hhr1.out _ _ _ _ _ _ rfl rfl rfl rfl ?_) | (rw [if_pos (by rfl)]; refine Hhr2.out _ _ _ _ _ _ rfl rfl rfl rfl ?_) | (rw [if_pos (by rfl)]; refine Hhr3.out _ _ _ _ _ _ rfl rfl rfl rfl ?_) | (rw [if_pos (by rfl)]; refine Hhs1.out _ _ _ _ _ _ rfl rfl rfl rfl ?_) | (rw [if_pos (by rfl)]; refine Hhs2.out _ _ _ _ _ _ rfl rfl rfl rfl ?_) | (rw [if_pos (by rfl)]; refine Hhs3.out _ _ _ _ _ _ rfl rfl rfl rfl ?_))
                  all_goals (try simp only [Exit.inBlock, Exit.then])
                  all_goals go_wp2_with fail
                  all_goals first
                    | exact ⟨⟨k + 1, A7, c7, by omega, by go_num, by rw [HNl.out], HF1⟩, by simp [intOf]; omega⟩
                    | exact ⟨⟨k + 1, B7, d7, by omega, by go_num, by rw [HNl.out], HF2⟩, by simp [intOf]; omega⟩
          · have hqe : q = R.length := by omega
            have HPOS := Lib.hid (pos_of (by omega) HLT.out (.inl hqe))
            have HNE := Lib.hid (show ¬ R[q]? = some t by rw [List.getElem?_eq_none (by omega)]; intro h; cases h)
            have hqI : ¬ ((q : Int) < (R.length : Int)) := by omega
            have hqI2 : (R.length : Int) ≤ (q : Int) := by omega
            by_cases hend : 2199023255552 ≤ t
            · have HN := Lib.hid (HNX.out.trans (ins_same (.inr hend)))
              go_wp2_with fail
              refine ⟨⟨k + 1, some bd, c3, by omega, by go_num, by rw [HN.out], ?_⟩, by simp [intOf]; omega⟩
              rw [HN.out]
              exact HS3
            · have HLE := Lib.hid (show t < 2199023255552 by omega)
              have hend2 : t < 2199023255552 := by omega
              by_cases hcq : c3 = q
              · subst hqe
                subst hcq
                clear hqI hqI2
                go_wp2_with fail
                have hqc : (R.length : Int) ≤ (R.length : Int) := by have := (rowS_cap (HS3.out.ok 1 _ rfl)).1; omega
                have hq0 : (0 : Int) ≤ (R.length : Int) := by omega
                have hql : (R.length : Int) ≤ (R.length : Int) := by omega
                have HQ := Lib.hid (show (R.take R.length).length = R.length by rw [List.length_take]; omega)
                have HQ1 := Lib.hid (show (R.take R.length ++ [t]).length = R.length + 1 by rw [List.length_append, HQ.out]; rfl)
                have HQ2 := Lib.hid (show (R.take R.length ++ [t] ++ R.drop R.length).length = R.length + 1 by rw [List.length_append, HQ1.out, List.length_drop]; omega)
                have HN := Lib.hid (HNX.out.trans (ins_new HPOS.out HNE.out HLE.out))
                have HNl := Lib.hid (show ((PT.take (k + 1)).foldl insE [first]).length = R.length + 1 by rw [HN.out]; exact HQ2.out)
                have HB4 := Lib.hid HRl.out.1
                have HSd := Lib.hid ((HS3.out.after (Below.refl _ _).drew).nilS 3 1 inC)
                have HSb := Lib.hid ((HS3.out.new (alloc_b wr (.cells #[.int .i64 t] 3)) (Blk.newd wr 3 #[.int .i64 t]) (Nat.le_refl _)).nilS 3 1 inC)
                refine Exists.elim (run_ints HSd.out 2 none 0 [] 0 rfl (some bd) R.length R.length (R.take R.length) (R.take R.length) R.length rfl HQ.out rfl ((HSd.out.rdS1 1 rfl rfl).take (by omega)) (by have := HB4.out; omega)) ?_
                rintro A5 ⟨c5, X5, hr1, hM1⟩
                have hM1b := hM1.new (W' := X5.alloc (.cells #[.int .i64 t] 3)) ((Below.refl _ _).alloc (Nat.le_refl _) _) (Blk.new X5 3 #[.int .i64 t]) (Nat.le_refl _)
                refine Exists.elim (run_ints hM1b 2 A5 c5 (R.take R.length) R.length HQ.out (some ⟨X5.heap.size, 0, none⟩) 1 1 [t] (R.take R.length ++ [t]) (R.length + 1) rfl HQ1.out rfl (rd_one (hM1b.at_ 3 rfl)) (by have := HB4.out; omega)) ?_
                rintro A6 ⟨c6, X6, hr2, hM2⟩
                refine Exists.elim (run_ints hM2 2 A6 c6 (R.take R.length ++ [t]) (R.length + 1) HQ1.out (some bd) 0 0 (R.drop R.length) (R.take R.length ++ [t] ++ R.drop R.length) (R.length + 1) rfl HQ2.out rfl (by simpa using rd_dropE (w := _) (A := some bd) R (Nat.le_refl R.length)) (by have := HB4.out; omega)) ?_
                rintro A7 ⟨c7, X7, hr3, hM3⟩
                refine Exists.elim (run_ints HSb.out 3 none 0 [] 0 rfl (some bd) R.length R.length (R.take R.length) (R.take R.length) R.length rfl HQ.out rfl ((HSb.out.rdS1 1 rfl rfl).take (by omega)) (by have := HB4.out; omega)) ?_
                rintro B5 ⟨d5, V5, hs1, hK1⟩
                refine Exists.elim (run_ints hK1 3 B5 d5 (R.take R.length) R.length HQ.out (some ⟨wr.heap.size, 0, none⟩) 1 1 [t] (R.take R.length ++ [t]) (R.length + 1) rfl HQ1.out rfl (rd_one (hK1.at_ 2 rfl)) (by have := HB4.out; omega)) ?_
                rintro B6 ⟨d6, V6, hs2, hK2⟩
                refine Exists.elim (run_ints hK2 3 B6 d6 (R.take R.length ++ [t]) (R.length + 1) HQ1.out (some bd) 0 0 (R.drop R.length) (R.take R.length ++ [t] ++ R.drop R.length) (R.length + 1) rfl HQ2.out rfl (by simpa using rd_dropE (w := _) (A := some bd) R (Nat.le_refl R.length)) (by have := HB4.out; omega)) ?_
                rintro B7 ⟨d7, V7, hs3, hK3⟩
                rw [← HN.out] at hM3 hK3
                have HF1 := Lib.hid (hM3.two 0 2 rfl rfl (by decide))
                have HF2 := Lib.hid (hK3.two 0 3 rfl rfl (by decide))
                clear hM1 hM1b hM2 hM3 hK1 hK2 hK3 HSd HSb
                have Hhr1 := Lib.hid (fun (o : Oper) (a : Act) (K : Act → World → Prop) (Q : Exit → Act → World → Prop) (s x : Operand) (ho : o.op = .call { callee := .builtin .append, args := #[s, x], argTypes := #[103, 103] }) (hot : o.type = 103) (hs : a.eval s = (.slice none 0 0)) (hx : a.eval x = (.slice (some bd) R.length R.length)) (hK : K (a.put o.dst (.slice A5 R.length c5)) X5) => (wp_append s x 103 ho _ _ hs hx _ (by rw [hot]; exact hr1) hK : o.wp Tryd.prog a wr.drew K Q))
                have Hhr2 := Lib.hid (fun (o : Oper) (a : Act) (K : Act → World → Prop) (Q : Exit → Act → World → Prop) (s x : Operand) (ho : o.op = .call { callee := .builtin .append, args := #[s, x], argTypes := #[103, 103] }) (hot : o.type = 103) (hs : a.eval s = (.slice A5 R.length c5)) (hx : a.eval x = (.slice (some ⟨X5.heap.size, 0, none⟩) 1 1)) (hK : K (a.put o.dst (.slice A6 (R.length + 1) c6)) X6) => (wp_append s x 103 ho _ _ hs hx _ (by rw [hot]; exact hr2) hK : o.wp Tryd.prog a (X5.alloc (.cells #[.int .i64 t] 3)) K Q))
                have Hhr3 := Lib.hid (fun (o : Oper) (a : Act) (K : Act → World → Prop) (Q : Exit → Act → World → Prop) (s x : Operand) (ho : o.op = .call { callee := .builtin .append, args := #[s, x], argTypes := #[103, 103] }) (hot : o.type = 103) (hs : a.eval s = (.slice A6 (R.length + 1) c6)) (hx : a.eval x = (.slice (some bd) 0 0)) (hK : K (a.put o.dst (.slice A7 (R.length + 1) c7)) X7) => (wp_append s x 103 ho _ _ hs hx _ (by rw [hot]; exact hr3) hK : o.wp Tryd.prog a X6 K Q))
                have Hhs1 := Lib.hid (fun (o : Oper) (a : Act) (K : Act → World → Prop) (Q : Exit → Act → World → Prop) (s x : Operand) (ho : o.op = .call { callee := .builtin .append, args := #[s, x], argTypes := #[103, 103] }) (hot : o.type = 103) (hs : a.eval s = (.slice none 0 0)) (hx : a.eval x = (.slice (some bd) R.length R.length)) (hK : K (a.put o.dst (.slice B5 R.length d5)) V5) => (wp_append s x 103 ho _ _ hs hx _ (by rw [hot]; exact hs1) hK : o.wp Tryd.prog a ((wr.alloc (.cells #[.int .i64 t] 3)).drew) K Q))
                have Hhs2 := Lib.hid (fun (o : Oper) (a : Act) (K : Act → World → Prop) (Q : Exit → Act → World → Prop) (s x : Operand) (ho : o.op = .call { callee := .builtin .append, args := #[s, x], argTypes := #[103, 103] }) (hot : o.type = 103) (hs : a.eval s = (.slice B5 R.length d5)) (hx : a.eval x = (.slice (some ⟨wr.heap.size, 0, none⟩) 1 1)) (hK : K (a.put o.dst (.slice B6 (R.length + 1) d6)) V6) => (wp_append s x 103 ho _ _ hs hx _ (by rw [hot]; exact hs2) hK : o.wp Tryd.prog a V5 K Q))
                have Hhs3 := Lib.hid (fun (o : Oper) (a : Act) (K : Act → World → Prop) (Q : Exit → Act → World → Prop) (s x : Operand) (ho : o.op = .call { callee := .builtin .append, args := #[s, x], argTypes := #[103, 103] }) (hot : o.type = 103) (hs : a.eval s = (.slice B6 (R.length + 1) d6)) (hx : a.eval x = (.slice (some bd) 0 0)) (hK : K (a.put o.dst (.slice B7 (R.length + 1) d7)) V7) => (wp_append s x 103 ho _ _ hs hx _ (by rw [hot]; exact hs3) hK : o.wp Tryd.prog a V6 K Q))
                go_region_held3 (fun _ => True) (exact trivial) (first | (rw [if_pos (by rfl)]; refine Hhr1.out _ _ _ _ _ _ rfl rfl rfl rfl ?_) | (rw [if_pos (by rfl)]; refine Hhr2.out _ _ _ _ _ _ rfl rfl rfl rfl ?_) | (rw [if_pos (by rfl)]; refine Hhr3.out _ _ _ _ _ _ rfl rfl rfl rfl ?_) | (rw [if_pos (by rfl)]; refine Hhs1.out _ _ _ _ _ _ rfl rfl rfl rfl ?_) | (rw [if_pos (by rfl)]; refine Hhs2.out _ _ _ _ _ _ rfl rfl rfl rfl ?_) | (rw [if_pos (by rfl)]; refine Hhs3.out _ _ _ _ _ _ rfl rfl rfl rfl ?_))
                all_goals (try simp only [Exit.inBlock, Exit.then])
                all_goals go_wp2_with fail
                all_goals first
                  | exact ⟨⟨k + 1, A7, c7, by omega, by go_num, by rw [HNl.out], HF1⟩, by simp [intOf]; omega⟩
                  | exact ⟨⟨k + 1, B7, d7, by omega, by go_num, by rw [HNl.out], HF2⟩, by simp [intOf]; omega⟩
              · subst hqe
                clear hqI hqI2
                go_wp2_with fail
                have hqc : (R.length : Int) ≤ (c3 : Int) := by have := (rowS_cap (HS3.out.ok 1 _ rfl)).1; omega
                have hq0 : (0 : Int) ≤ (R.length : Int) := by omega
                have hql : (R.length : Int) ≤ (R.length : Int) := by omega
                have HQ := Lib.hid (show (R.take R.length).length = R.length by rw [List.length_take]; omega)
                have HQ1 := Lib.hid (show (R.take R.length ++ [t]).length = R.length + 1 by rw [List.length_append, HQ.out]; rfl)
                have HQ2 := Lib.hid (show (R.take R.length ++ [t] ++ R.drop R.length).length = R.length + 1 by rw [List.length_append, HQ1.out, List.length_drop]; omega)
                have HN := Lib.hid (HNX.out.trans (ins_new HPOS.out HNE.out HLE.out))
                have HNl := Lib.hid (show ((PT.take (k + 1)).foldl insE [first]).length = R.length + 1 by rw [HN.out]; exact HQ2.out)
                have HB4 := Lib.hid HRl.out.1
                have HSd := Lib.hid ((HS3.out.after (Below.refl _ _).drew).nilS 3 1 inC)
                have HSb := Lib.hid ((HS3.out.new (alloc_b wr (.cells #[.int .i64 t] 3)) (Blk.newd wr 3 #[.int .i64 t]) (Nat.le_refl _)).nilS 3 1 inC)
                refine Exists.elim (run_ints HSd.out 2 none 0 [] 0 rfl (some bd) R.length c3 (R.take R.length) (R.take R.length) R.length rfl HQ.out rfl ((HSd.out.rdS1 1 rfl rfl).take (by omega)) (by have := HB4.out; omega)) ?_
                rintro A5 ⟨c5, X5, hr1, hM1⟩
                have hM1b := hM1.new (W' := X5.alloc (.cells #[.int .i64 t] 3)) ((Below.refl _ _).alloc (Nat.le_refl _) _) (Blk.new X5 3 #[.int .i64 t]) (Nat.le_refl _)
                refine Exists.elim (run_ints hM1b 2 A5 c5 (R.take R.length) R.length HQ.out (some ⟨X5.heap.size, 0, none⟩) 1 1 [t] (R.take R.length ++ [t]) (R.length + 1) rfl HQ1.out rfl (rd_one (hM1b.at_ 3 rfl)) (by have := HB4.out; omega)) ?_
                rintro A6 ⟨c6, X6, hr2, hM2⟩
                refine Exists.elim (run_ints hM2 2 A6 c6 (R.take R.length ++ [t]) (R.length + 1) HQ1.out (some (bd.add R.length)) 0 (c3 - R.length) (R.drop R.length) (R.take R.length ++ [t] ++ R.drop R.length) (R.length + 1) rfl HQ2.out rfl (by simpa using rd_dropE (w := _) (A := some (bd.add R.length)) R (Nat.le_refl R.length)) (by have := HB4.out; omega)) ?_
                rintro A7 ⟨c7, X7, hr3, hM3⟩
                refine Exists.elim (run_ints HSb.out 3 none 0 [] 0 rfl (some bd) R.length c3 (R.take R.length) (R.take R.length) R.length rfl HQ.out rfl ((HSb.out.rdS1 1 rfl rfl).take (by omega)) (by have := HB4.out; omega)) ?_
                rintro B5 ⟨d5, V5, hs1, hK1⟩
                refine Exists.elim (run_ints hK1 3 B5 d5 (R.take R.length) R.length HQ.out (some ⟨wr.heap.size, 0, none⟩) 1 1 [t] (R.take R.length ++ [t]) (R.length + 1) rfl HQ1.out rfl (rd_one (hK1.at_ 2 rfl)) (by have := HB4.out; omega)) ?_
                rintro B6 ⟨d6, V6, hs2, hK2⟩
                refine Exists.elim (run_ints hK2 3 B6 d6 (R.take R.length ++ [t]) (R.length + 1) HQ1.out (some (bd.add R.length)) 0 (c3 - R.length) (R.drop R.length) (R.take R.length ++ [t] ++ R.drop R.length) (R.length + 1) rfl HQ2.out rfl (by simpa using rd_dropE (w := _) (A := some (bd.add R.length)) R (Nat.le_refl R.length)) (by have := HB4.out; omega)) ?_
                rintro B7 ⟨d7, V7, hs3, hK3⟩
                rw [← HN.out] at hM3 hK3
                have HF1 := Lib.hid (hM3.two 0 2 rfl rfl (by decide))
                have HF2 := Lib.hid (hK3.two 0 3 rfl rfl (by decide))
                clear hM1 hM1b hM2 hM3 hK1 hK2 hK3 HSd HSb
                have Hhr1 := Lib.hid (fun (o : Oper) (a : Act) (K : Act → World → Prop) (Q : Exit → Act → World → Prop) (s x : Operand) (ho : o.op = .call { callee := .builtin .append, args := #[s, x], argTypes := #[103, 103] }) (hot : o.type = 103) (hs : a.eval s = (.slice none 0 0)) (hx : a.eval x = (.slice (some bd) R.length c3)) (hK : K (a.put o.dst (.slice A5 R.length c5)) X5) => (wp_append s x 103 ho _ _ hs hx _ (by rw [hot]; exact hr1) hK : o.wp Tryd.prog a wr.drew K Q))
                have Hhr2 := Lib.hid (fun (o : Oper) (a : Act) (K : Act → World → Prop) (Q : Exit → Act → World → Prop) (s x : Operand) (ho : o.op = .call { callee := .builtin .append, args := #[s, x], argTypes := #[103, 103] }) (hot : o.type = 103) (hs : a.eval s = (.slice A5 R.length c5)) (hx : a.eval x = (.slice (some ⟨X5.heap.size, 0, none⟩) 1 1)) (hK : K (a.put o.dst (.slice A6 (R.length + 1) c6)) X6) => (wp_append s x 103 ho _ _ hs hx _ (by rw [hot]; exact hr2) hK : o.wp Tryd.prog a (X5.alloc (.cells #[.int .i64 t] 3)) K Q))
                have Hhr3 := Lib.hid (fun (o : Oper) (a : Act) (K : Act → World → Prop) (Q : Exit → Act → World → Prop) (s x : Operand) (ho : o.op = .call { callee := .builtin .append, args := #[s, x], argTypes := #[103, 103] }) (hot : o.type = 103) (hs : a.eval s = (.slice A6 (R.length + 1) c6)) (hx : a.eval x = (.slice (some (bd.add R.length)) 0 (c3 - R.length))) (hK : K (a.put o.dst (.slice A7 (R.length + 1) c7)) X7) => (wp_append s x 103 ho _ _ hs hx _ (by rw [hot]; exact hr3) hK : o.wp Tryd.prog a X6 K Q))
                have Hhs1 := Lib.hid (fun (o : Oper) (a : Act) (K : Act → World → Prop) (Q : Exit → Act → World → Prop) (s x : Operand) (ho : o.op = .call { callee := .builtin .append, args := #[s, x], argTypes := #[103, 103] }) (hot : o.type = 103) (hs : a.eval s = (.slice none 0 0)) (hx : a.eval x = (.slice (some bd) R.length c3)) (hK : K (a.put o.dst (.slice B5 R.length d5)) V5) => (wp_append s x 103 ho _ _ hs hx _ (by rw [hot]; exact hs1) hK : o.wp Tryd.prog a ((wr.alloc (.cells #[.int .i64 t] 3)).drew) K Q))
                have Hhs2 := Lib.hid (fun (o : Oper) (a : Act) (K : Act → World → Prop) (Q : Exit → Act → World → Prop) (s x : Operand) (ho : o.op = .call { callee := .builtin .append, args := #[s, x], argTypes := #[103, 103] }) (hot : o.type = 103) (hs : a.eval s = (.slice B5 R.length d5)) (hx : a.eval x = (.slice (some ⟨wr.heap.size, 0, none⟩) 1 1)) (hK : K (a.put o.dst (.slice B6 (R.length + 1) d6)) V6) => (wp_append s x 103 ho _ _ hs hx _ (by rw [hot]; exact hs2) hK : o.wp Tryd.prog a V5 K Q))
                have Hhs3 := Lib.hid (fun (o : Oper) (a : Act) (K : Act → World → Prop) (Q : Exit → Act → World → Prop) (s x : Operand) (ho : o.op = .call { callee := .builtin .append, args := #[s, x], argTypes := #[103, 103] }) (hot : o.type = 103) (hs : a.eval s = (.slice B6 (R.length + 1) d6)) (hx : a.eval x = (.slice (some (bd.add R.length)) 0 (c3 - R.length))) (hK : K (a.put o.dst (.slice B7 (R.length + 1) d7)) V7) => (wp_append s x 103 ho _ _ hs hx _ (by rw [hot]; exact hs3) hK : o.wp Tryd.prog a V6 K Q))
                go_region_held3 (fun _ => True) (exact trivial) (first | (rw [if_pos (by rfl)]; refine Hhr1.out _ _ _ _ _ _ rfl rfl rfl rfl ?_) | (rw [if_pos (by rfl)]; refine Hhr2.out _ _ _ _ _ _ rfl rfl rfl rfl ?_) | (rw [if_pos (by rfl)]; refine Hhr3.out _ _ _ _ _ _ rfl rfl rfl rfl ?_) | (rw [if_pos (by rfl)]; refine Hhs1.out _ _ _ _ _ _ rfl rfl rfl rfl ?_) | (rw [if_pos (by rfl)]; refine Hhs2.out _ _ _ _ _ _ rfl rfl rfl rfl ?_) | (rw [if_pos (by rfl)]; refine Hhs3.out _ _ _ _ _ _ rfl rfl rfl rfl ?_))
                all_goals (try simp only [Exit.inBlock, Exit.then])
                all_goals go_wp2_with fail
                all_goals first
                  | exact ⟨⟨k + 1, A7, c7, by omega, by go_num, by rw [HNl.out], HF1⟩, by simp [intOf]; omega⟩
                  | exact ⟨⟨k + 1, B7, d7, by omega, by go_num, by rw [HNl.out], HF2⟩, by simp [intOf]; omega⟩
      · have hr1 : (k : Int) % 2 = 0 := by omega
        have hr2 : (k : Int).tmod 2 = 0 := by rw [Int.tmod_eq_emod_of_nonneg (by omega)]; omega
        have HT := Lib.hid (show PT[k]? = some s.lo by have h := HSP.out.1; rw [HPT.out]; rwa [show 2 * (k / 2) = k by omega] at h)
        obtain ⟨r0a, r0b, r0c⟩ := HS2.out.rules 0 rfl
        go_wp2_with fail
        clear hq1 hq2 hr1 hr2 e1 e2
        clear r0a r0b r0c
        obtain ⟨t, ht⟩ : ∃ t, t = s.lo := ⟨_, rfl⟩
        rw [← ht] at HT ⊢
        clear ht
        have HNX := Lib.hid (show ((PT.take (k + 1)).foldl insE [first]) = insE R t by rw [fold_take HT.out, HRe.out])
        go_loopw [6] (fun q wr => ∃ kk : Nat, kk ≤ R.length ∧ q = .int .i64 (kk : Nat) ∧ Hid (∀ x ∈ R.take kk, x < t) ∧ Hid (Ms w (Own.blk p 80 (dpA up first (some ad) n c)).bl [(.blk p 80 (dpA up first (some ad) n c)), rowI (some bd) c3 R] wr)) (fun q _ => R.length - (intOf q).toNat)
        case atStart => exact ⟨0, by omega, rfl, Lib.hid (fun x hx => by simp at hx), HS2⟩
        case round =>
          obtain ⟨q, hqn, rfl, HLT, HS3⟩ := hrel
          by_cases hq : q < R.length
          · have hqI : (q : Int) < (R.length : Int) := by omega
            obtain ⟨y, hy⟩ : ∃ y, R[q]? = some y := ⟨_, List.getElem?_eq_getElem hq⟩
            have e3 := HS3.out.cellI 1 rfl hy
            have HY := Lib.hid hy
            clear hy
            by_cases hyt : y < t
            · have HLN := Lib.hid (show ∀ x ∈ R.take (q + 1), x < t from fun x hx => by
                rw [take_one HY.out] at hx
                rcases List.mem_append.1 hx with h | h
                · exact HLT.out x h
                · simp at h; subst h; exact hyt)
              go_wp2_with fail
              exact ⟨⟨q + 1, by omega, by go_num, HLN, HS3⟩, by simp [intOf]; omega⟩
            · have hyt2 : t ≤ y := by omega
              have HPOS := Lib.hid (pos_of (by omega) HLT.out (.inr ⟨y, HY.out, hyt⟩))
              by_cases hye : y = t
              · have HEQ := Lib.hid hye
                have hye1 : (y == t) = true := beq_iff_eq.2 hye
                clear hye
                have HN := Lib.hid (HNX.out.trans (ins_same (.inl (by rw [HPOS.out, HY.out, HEQ.out]))))
                go_wp2_with fail
                refine ⟨⟨k + 1, some bd, c3, by omega, by go_num, by rw [HN.out], ?_⟩, by simp [intOf]; omega⟩
                rw [HN.out]
                exact HS3
              · have hye1 : (y == t) = false := beq_false_of_ne hye
                have HNE := Lib.hid (show ¬ R[q]? = some t by rw [HY.out]; intro h; exact hye (Option.some.inj h))
                by_cases hend : 2199023255552 ≤ t
                · have HN := Lib.hid (HNX.out.trans (ins_same (.inr hend)))
                  go_wp2_with fail
                  refine ⟨⟨k + 1, some bd, c3, by omega, by go_num, by rw [HN.out], ?_⟩, by simp [intOf]; omega⟩
                  rw [HN.out]
                  exact HS3
                · have HLE := Lib.hid (show t < 2199023255552 by omega)
                  have hend2 : t < 2199023255552 := by omega
                  have hcq : ¬ c3 = q := by have := (rowS_cap (HS3.out.ok 1 _ rfl)).1; omega
                  clear hye
                  go_wp2_with fail
                  clear e3 hye1
                  have hqc : (q : Int) ≤ (c3 : Int) := by have := (rowS_cap (HS3.out.ok 1 _ rfl)).1; omega
                  have hq0 : (0 : Int) ≤ (q : Int) := by omega
                  have hql : (q : Int) ≤ (R.length : Int) := by omega
                  have HQ := Lib.hid (show (R.take q).length = q by rw [List.length_take]; omega)
                  have HQ1 := Lib.hid (show (R.take q ++ [t]).length = q + 1 by rw [List.length_append, HQ.out]; rfl)
                  have HQ2 := Lib.hid (show (R.take q ++ [t] ++ R.drop q).length = R.length + 1 by rw [List.length_append, HQ1.out, List.length_drop]; omega)
                  have HN := Lib.hid (HNX.out.trans (ins_new HPOS.out HNE.out HLE.out))
                  have HNl := Lib.hid (show ((PT.take (k + 1)).foldl insE [first]).length = R.length + 1 by rw [HN.out]; exact HQ2.out)
                  have HB4 := Lib.hid HRl.out.1
                  have HSd := Lib.hid ((HS3.out.after (Below.refl _ _).drew).nilS 3 1 inC)
                  have HSb := Lib.hid ((HS3.out.new (alloc_b wr (.cells #[.int .i64 t] 3)) (Blk.newd wr 3 #[.int .i64 t]) (Nat.le_refl _)).nilS 3 1 inC)
                  refine Exists.elim (run_ints HSd.out 2 none 0 [] 0 rfl (some bd) q c3 (R.take q) (R.take q) q rfl HQ.out rfl ((HSd.out.rdS1 1 rfl rfl).take (by omega)) (by have := HB4.out; omega)) ?_
                  rintro A5 ⟨c5, X5, hr1, hM1⟩
                  have hM1b := hM1.new (W' := X5.alloc (.cells #[.int .i64 t] 3)) ((Below.refl _ _).alloc (Nat.le_refl _) _) (Blk.new X5 3 #[.int .i64 t]) (Nat.le_refl _)
                  refine Exists.elim (run_ints hM1b 2 A5 c5 (R.take q) q HQ.out (some ⟨X5.heap.size, 0, none⟩) 1 1 [t] (R.take q ++ [t]) (q + 1) rfl HQ1.out rfl (rd_one (hM1b.at_ 3 rfl)) (by have := HB4.out; omega)) ?_
                  rintro A6 ⟨c6, X6, hr2, hM2⟩
                  refine Exists.elim (run_ints hM2 2 A6 c6 (R.take q ++ [t]) (q + 1) HQ1.out (some (bd.add q)) (R.length - q) (c3 - q) (R.drop q) (R.take q ++ [t] ++ R.drop q) (R.length + 1) rfl HQ2.out rfl (rd_dropL (hM2.rdS1 1 rfl rfl) hq) (by have := HB4.out; omega)) ?_
                  rintro A7 ⟨c7, X7, hr3, hM3⟩
                  refine Exists.elim (run_ints HSb.out 3 none 0 [] 0 rfl (some bd) q c3 (R.take q) (R.take q) q rfl HQ.out rfl ((HSb.out.rdS1 1 rfl rfl).take (by omega)) (by have := HB4.out; omega)) ?_
                  rintro B5 ⟨d5, V5, hs1, hK1⟩
                  refine Exists.elim (run_ints hK1 3 B5 d5 (R.take q) q HQ.out (some ⟨wr.heap.size, 0, none⟩) 1 1 [t] (R.take q ++ [t]) (q + 1) rfl HQ1.out rfl (rd_one (hK1.at_ 2 rfl)) (by have := HB4.out; omega)) ?_
                  rintro B6 ⟨d6, V6, hs2, hK2⟩
                  refine Exists.elim (run_ints hK2 3 B6 d6 (R.take q ++ [t]) (q + 1) HQ1.out (some (bd.add q)) (R.length - q) (c3 - q) (R.drop q) (R.take q ++ [t] ++ R.drop q) (R.length + 1) rfl HQ2.out rfl (rd_dropL (hK2.rdS1 1 rfl rfl) hq) (by have := HB4.out; omega)) ?_
                  rintro B7 ⟨d7, V7, hs3, hK3⟩
                  rw [← HN.out] at hM3 hK3
                  have HF1 := Lib.hid (hM3.two 0 2 rfl rfl (by decide))
                  have HF2 := Lib.hid (hK3.two 0 3 rfl rfl (by decide))
                  clear hM1 hM1b hM2 hM3 hK1 hK2 hK3 HSd HSb
                  have Hhr1 := Lib.hid (fun (o : Oper) (a : Act) (K : Act → World → Prop) (Q : Exit → Act → World → Prop) (s x : Operand) (ho : o.op = .call { callee := .builtin .append, args := #[s, x], argTypes := #[103, 103] }) (hot : o.type = 103) (hs : a.eval s = (.slice none 0 0)) (hx : a.eval x = (.slice (some bd) q c3)) (hK : K (a.put o.dst (.slice A5 q c5)) X5) => (wp_append s x 103 ho _ _ hs hx _ (by rw [hot]; exact hr1) hK : o.wp Tryd.prog a wr.drew K Q))
                  have Hhr2 := Lib.hid (fun (o : Oper) (a : Act) (K : Act → World → Prop) (Q : Exit → Act → World → Prop) (s x : Operand) (ho : o.op = .call { callee := .builtin .append, args := #[s, x], argTypes := #[103, 103] }) (hot : o.type = 103) (hs : a.eval s = (.slice A5 q c5)) (hx : a.eval x = (.slice (some ⟨X5.heap.size, 0, none⟩) 1 1)) (hK : K (a.put o.dst (.slice A6 (q + 1) c6)) X6) => (wp_append s x 103 ho _ _ hs hx _ (by rw [hot]; exact hr2) hK : o.wp Tryd.prog a (X5.alloc (.cells #[.int .i64 t] 3)) K Q))
                  have Hhr3 := Lib.hid (fun (o : Oper) (a : Act) (K : Act → World → Prop) (Q : Exit → Act → World → Prop) (s x : Operand) (ho : o.op = .call { callee := .builtin .append, args := #[s, x], argTypes := #[103, 103] }) (hot : o.type = 103) (hs : a.eval s = (.slice A6 (q + 1) c6)) (hx : a.eval x = (.slice (some (bd.add q)) (R.length - q) (c3 - q))) (hK : K (a.put o.dst (.slice A7 (R.length + 1) c7)) X7) => (wp_append s x 103 ho _ _ hs hx _ (by rw [hot]; exact hr3) hK : o.wp Tryd.prog a X6 K Q))
                  have Hhs1 := Lib.hid (fun (o : Oper) (a : Act) (K : Act → World → Prop) (Q : Exit → Act → World → Prop) (s x : Operand) (ho : o.op = .call { callee := .builtin .append, args := #[s, x], argTypes := #[103, 103] }) (hot : o.type = 103) (hs : a.eval s = (.slice none 0 0)) (hx : a.eval x = (.slice (some bd) q c3)) (hK : K (a.put o.dst (.slice B5 q d5)) V5) => (wp_append s x 103 ho _ _ hs hx _ (by rw [hot]; exact hs1) hK : o.wp Tryd.prog a ((wr.alloc (.cells #[.int .i64 t] 3)).drew) K Q))
                  have Hhs2 := Lib.hid (fun (o : Oper) (a : Act) (K : Act → World → Prop) (Q : Exit → Act → World → Prop) (s x : Operand) (ho : o.op = .call { callee := .builtin .append, args := #[s, x], argTypes := #[103, 103] }) (hot : o.type = 103) (hs : a.eval s = (.slice B5 q d5)) (hx : a.eval x = (.slice (some ⟨wr.heap.size, 0, none⟩) 1 1)) (hK : K (a.put o.dst (.slice B6 (q + 1) d6)) V6) => (wp_append s x 103 ho _ _ hs hx _ (by rw [hot]; exact hs2) hK : o.wp Tryd.prog a V5 K Q))
                  have Hhs3 := Lib.hid (fun (o : Oper) (a : Act) (K : Act → World → Prop) (Q : Exit → Act → World → Prop) (s x : Operand) (ho : o.op = .call { callee := .builtin .append, args := #[s, x], argTypes := #[103, 103] }) (hot : o.type = 103) (hs : a.eval s = (.slice B6 (q + 1) d6)) (hx : a.eval x = (.slice (some (bd.add q)) (R.length - q) (c3 - q))) (hK : K (a.put o.dst (.slice B7 (R.length + 1) d7)) V7) => (wp_append s x 103 ho _ _ hs hx _ (by rw [hot]; exact hs3) hK : o.wp Tryd.prog a V6 K Q))
                  go_region_held3 (fun _ => True) (exact trivial) (first | (rw [if_pos (by rfl)]; refine Hhr1.out _ _ _ _ _ _ rfl rfl rfl rfl ?_) | (rw [if_pos (by rfl)]; refine Hhr2.out _ _ _ _ _ _ rfl rfl rfl rfl ?_) | (rw [if_pos (by rfl)]; refine Hhr3.out _ _ _ _ _ _ rfl rfl rfl rfl ?_) | (rw [if_pos (by rfl)]; refine Hhs1.out _ _ _ _ _ _ rfl rfl rfl rfl ?_) | (rw [if_pos (by rfl)]; refine Hhs2.out _ _ _ _ _ _ rfl rfl rfl rfl ?_) | (rw [if_pos (by rfl)]; refine Hhs3.out _ _ _ _ _ _ rfl rfl rfl rfl ?_))
                  all_goals (try simp only [Exit.inBlock, Exit.then])
                  all_goals go_wp2_with fail
                  all_goals first
                    | exact ⟨⟨k + 1, A7, c7, by omega, by go_num, by rw [HNl.out], HF1⟩, by simp [intOf]; omega⟩
                    | exact ⟨⟨k + 1, B7, d7, by omega, by go_num, by rw [HNl.out], HF2⟩, by simp [intOf]; omega⟩
          · have hqe : q = R.length := by omega
            have HPOS := Lib.hid (pos_of (by omega) HLT.out (.inl hqe))
            have HNE := Lib.hid (show ¬ R[q]? = some t by rw [List.getElem?_eq_none (by omega)]; intro h; cases h)
            have hqI : ¬ ((q : Int) < (R.length : Int)) := by omega
            have hqI2 : (R.length : Int) ≤ (q : Int) := by omega
            by_cases hend : 2199023255552 ≤ t
            · have HN := Lib.hid (HNX.out.trans (ins_same (.inr hend)))
              go_wp2_with fail
              refine ⟨⟨k + 1, some bd, c3, by omega, by go_num, by rw [HN.out], ?_⟩, by simp [intOf]; omega⟩
              rw [HN.out]
              exact HS3
            · have HLE := Lib.hid (show t < 2199023255552 by omega)
              have hend2 : t < 2199023255552 := by omega
              by_cases hcq : c3 = q
              · subst hqe
                subst hcq
                clear hqI hqI2
                go_wp2_with fail
                have hqc : (R.length : Int) ≤ (R.length : Int) := by have := (rowS_cap (HS3.out.ok 1 _ rfl)).1; omega
                have hq0 : (0 : Int) ≤ (R.length : Int) := by omega
                have hql : (R.length : Int) ≤ (R.length : Int) := by omega
                have HQ := Lib.hid (show (R.take R.length).length = R.length by rw [List.length_take]; omega)
                have HQ1 := Lib.hid (show (R.take R.length ++ [t]).length = R.length + 1 by rw [List.length_append, HQ.out]; rfl)
                have HQ2 := Lib.hid (show (R.take R.length ++ [t] ++ R.drop R.length).length = R.length + 1 by rw [List.length_append, HQ1.out, List.length_drop]; omega)
                have HN := Lib.hid (HNX.out.trans (ins_new HPOS.out HNE.out HLE.out))
                have HNl := Lib.hid (show ((PT.take (k + 1)).foldl insE [first]).length = R.length + 1 by rw [HN.out]; exact HQ2.out)
                have HB4 := Lib.hid HRl.out.1
                have HSd := Lib.hid ((HS3.out.after (Below.refl _ _).drew).nilS 3 1 inC)
                have HSb := Lib.hid ((HS3.out.new (alloc_b wr (.cells #[.int .i64 t] 3)) (Blk.newd wr 3 #[.int .i64 t]) (Nat.le_refl _)).nilS 3 1 inC)
                refine Exists.elim (run_ints HSd.out 2 none 0 [] 0 rfl (some bd) R.length R.length (R.take R.length) (R.take R.length) R.length rfl HQ.out rfl ((HSd.out.rdS1 1 rfl rfl).take (by omega)) (by have := HB4.out; omega)) ?_
                rintro A5 ⟨c5, X5, hr1, hM1⟩
                have hM1b := hM1.new (W' := X5.alloc (.cells #[.int .i64 t] 3)) ((Below.refl _ _).alloc (Nat.le_refl _) _) (Blk.new X5 3 #[.int .i64 t]) (Nat.le_refl _)
                refine Exists.elim (run_ints hM1b 2 A5 c5 (R.take R.length) R.length HQ.out (some ⟨X5.heap.size, 0, none⟩) 1 1 [t] (R.take R.length ++ [t]) (R.length + 1) rfl HQ1.out rfl (rd_one (hM1b.at_ 3 rfl)) (by have := HB4.out; omega)) ?_
                rintro A6 ⟨c6, X6, hr2, hM2⟩
                refine Exists.elim (run_ints hM2 2 A6 c6 (R.take R.length ++ [t]) (R.length + 1) HQ1.out (some bd) 0 0 (R.drop R.length) (R.take R.length ++ [t] ++ R.drop R.length) (R.length + 1) rfl HQ2.out rfl (by simpa using rd_dropE (w := _) (A := some bd) R (Nat.le_refl R.length)) (by have := HB4.out; omega)) ?_
                rintro A7 ⟨c7, X7, hr3, hM3⟩
                refine Exists.elim (run_ints HSb.out 3 none 0 [] 0 rfl (some bd) R.length R.length (R.take R.length) (R.take R.length) R.length rfl HQ.out rfl ((HSb.out.rdS1 1 rfl rfl).take (by omega)) (by have := HB4.out; omega)) ?_
                rintro B5 ⟨d5, V5, hs1, hK1⟩
                refine Exists.elim (run_ints hK1 3 B5 d5 (R.take R.length) R.length HQ.out (some ⟨wr.heap.size, 0, none⟩) 1 1 [t] (R.take R.length ++ [t]) (R.length + 1) rfl HQ1.out rfl (rd_one (hK1.at_ 2 rfl)) (by have := HB4.out; omega)) ?_
                rintro B6 ⟨d6, V6, hs2, hK2⟩
                refine Exists.elim (run_ints hK2 3 B6 d6 (R.take R.length ++ [t]) (R.length + 1) HQ1.out (some bd) 0 0 (R.drop R.length) (R.take R.length ++ [t] ++ R.drop R.length) (R.length + 1) rfl HQ2.out rfl (by simpa using rd_dropE (w := _) (A := some bd) R (Nat.le_refl R.length)) (by have := HB4.out; omega)) ?_
                rintro B7 ⟨d7, V7, hs3, hK3⟩
                rw [← HN.out] at hM3 hK3
                have HF1 := Lib.hid (hM3.two 0 2 rfl rfl (by decide))
                have HF2 := Lib.hid (hK3.two 0 3 rfl rfl (by decide))
                clear hM1 hM1b hM2 hM3 hK1 hK2 hK3 HSd HSb
                have Hhr1 := Lib.hid (fun (o : Oper) (a : Act) (K : Act → World → Prop) (Q : Exit → Act → World → Prop) (s x : Operand) (ho : o.op = .call { callee := .builtin .append, args := #[s, x], argTypes := #[103, 103] }) (hot : o.type = 103) (hs : a.eval s = (.slice none 0 0)) (hx : a.eval x = (.slice (some bd) R.length R.length)) (hK : K (a.put o.dst (.slice A5 R.length c5)) X5) => (wp_append s x 103 ho _ _ hs hx _ (by rw [hot]; exact hr1) hK : o.wp Tryd.prog a wr.drew K Q))
                have Hhr2 := Lib.hid (fun (o : Oper) (a : Act) (K : Act → World → Prop) (Q : Exit → Act → World → Prop) (s x : Operand) (ho : o.op = .call { callee := .builtin .append, args := #[s, x], argTypes := #[103, 103] }) (hot : o.type = 103) (hs : a.eval s = (.slice A5 R.length c5)) (hx : a.eval x = (.slice (some ⟨X5.heap.size, 0, none⟩) 1 1)) (hK : K (a.put o.dst (.slice A6 (R.length + 1) c6)) X6) => (wp_append s x 103 ho _ _ hs hx _ (by rw [hot]; exact hr2) hK : o.wp Tryd.prog a (X5.alloc (.cells #[.int .i64 t] 3)) K Q))
                have Hhr3 := Lib.hid (fun (o : Oper) (a : Act) (K : Act → World → Prop) (Q : Exit → Act → World → Prop) (s x : Operand) (ho : o.op = .call { callee := .builtin .append, args := #[s, x], argTypes := #[103, 103] }) (hot : o.type = 103) (hs : a.eval s = (.slice A6 (R.length + 1) c6)) (hx : a.eval x = (.slice (some bd) 0 0)) (hK : K (a.put o.dst (.slice A7 (R.length + 1) c7)) X7) => (wp_append s x 103 ho _ _ hs hx _ (by rw [hot]; exact hr3) hK : o.wp Tryd.prog a X6 K Q))
                have Hhs1 := Lib.hid (fun (o : Oper) (a : Act) (K : Act → World → Prop) (Q : Exit → Act → World → Prop) (s x : Operand) (ho : o.op = .call { callee := .builtin .append, args := #[s, x], argTypes := #[103, 103] }) (hot : o.type = 103) (hs : a.eval s = (.slice none 0 0)) (hx : a.eval x = (.slice (some bd) R.length R.length)) (hK : K (a.put o.dst (.slice B5 R.length d5)) V5) => (wp_append s x 103 ho _ _ hs hx _ (by rw [hot]; exact hs1) hK : o.wp Tryd.prog a ((wr.alloc (.cells #[.int .i64 t] 3)).drew) K Q))
                have Hhs2 := Lib.hid (fun (o : Oper) (a : Act) (K : Act → World → Prop) (Q : Exit → Act → World → Prop) (s x : Operand) (ho : o.op = .call { callee := .builtin .append, args := #[s, x], argTypes := #[103, 103] }) (hot : o.type = 103) (hs : a.eval s = (.slice B5 R.length d5)) (hx : a.eval x = (.slice (some ⟨wr.heap.size, 0, none⟩) 1 1)) (hK : K (a.put o.dst (.slice B6 (R.length + 1) d6)) V6) => (wp_append s x 103 ho _ _ hs hx _ (by rw [hot]; exact hs2) hK : o.wp Tryd.prog a V5 K Q))
                have Hhs3 := Lib.hid (fun (o : Oper) (a : Act) (K : Act → World → Prop) (Q : Exit → Act → World → Prop) (s x : Operand) (ho : o.op = .call { callee := .builtin .append, args := #[s, x], argTypes := #[103, 103] }) (hot : o.type = 103) (hs : a.eval s = (.slice B6 (R.length + 1) d6)) (hx : a.eval x = (.slice (some bd) 0 0)) (hK : K (a.put o.dst (.slice B7 (R.length + 1) d7)) V7) => (wp_append s x 103 ho _ _ hs hx _ (by rw [hot]; exact hs3) hK : o.wp Tryd.prog a V6 K Q))
                go_region_held3 (fun _ => True) (exact trivial) (first | (rw [if_pos (by rfl)]; refine Hhr1.out _ _ _ _ _ _ rfl rfl rfl rfl ?_) | (rw [if_pos (by rfl)]; refine Hhr2.out _ _ _ _ _ _ rfl rfl rfl rfl ?_) | (rw [if_pos (by rfl)]; refine Hhr3.out _ _ _ _ _ _ rfl rfl rfl rfl ?_) | (rw [if_pos (by rfl)]; refine Hhs1.out _ _ _ _ _ _ rfl rfl rfl rfl ?_) | (rw [if_pos (by rfl)]; refine Hhs2.out _ _ _ _ _ _ rfl rfl rfl rfl ?_) | (rw [if_pos (by rfl)]; refine Hhs3.out _ _ _ _ _ _ rfl rfl rfl rfl ?_))
                all_goals (try simp only [Exit.inBlock, Exit.then])
                all_goals go_wp2_with fail
                all_goals first
                  | exact ⟨⟨k + 1, A7, c7, by omega, by go_num, by rw [HNl.out], HF1⟩, by simp [intOf]; omega⟩
                  | exact ⟨⟨k + 1, B7, d7, by omega, by go_num, by rw [HNl.out], HF2⟩, by simp [intOf]; omega⟩
              · subst hqe
                clear hqI hqI2
                go_wp2_with fail
                have hqc : (R.length : Int) ≤ (c3 : Int) := by have := (rowS_cap (HS3.out.ok 1 _ rfl)).1; omega
                have hq0 : (0 : Int) ≤ (R.length : Int) := by omega
                have hql : (R.length : Int) ≤ (R.length : Int) := by omega
                have HQ := Lib.hid (show (R.take R.length).length = R.length by rw [List.length_take]; omega)
                have HQ1 := Lib.hid (show (R.take R.length ++ [t]).length = R.length + 1 by rw [List.length_append, HQ.out]; rfl)
                have HQ2 := Lib.hid (show (R.take R.length ++ [t] ++ R.drop R.length).length = R.length + 1 by rw [List.length_append, HQ1.out, List.length_drop]; omega)
                have HN := Lib.hid (HNX.out.trans (ins_new HPOS.out HNE.out HLE.out))
                have HNl := Lib.hid (show ((PT.take (k + 1)).foldl insE [first]).length = R.length + 1 by rw [HN.out]; exact HQ2.out)
                have HB4 := Lib.hid HRl.out.1
                have HSd := Lib.hid ((HS3.out.after (Below.refl _ _).drew).nilS 3 1 inC)
                have HSb := Lib.hid ((HS3.out.new (alloc_b wr (.cells #[.int .i64 t] 3)) (Blk.newd wr 3 #[.int .i64 t]) (Nat.le_refl _)).nilS 3 1 inC)
                refine Exists.elim (run_ints HSd.out 2 none 0 [] 0 rfl (some bd) R.length c3 (R.take R.length) (R.take R.length) R.length rfl HQ.out rfl ((HSd.out.rdS1 1 rfl rfl).take (by omega)) (by have := HB4.out; omega)) ?_
                rintro A5 ⟨c5, X5, hr1, hM1⟩
                have hM1b := hM1.new (W' := X5.alloc (.cells #[.int .i64 t] 3)) ((Below.refl _ _).alloc (Nat.le_refl _) _) (Blk.new X5 3 #[.int .i64 t]) (Nat.le_refl _)
                refine Exists.elim (run_ints hM1b 2 A5 c5 (R.take R.length) R.length HQ.out (some ⟨X5.heap.size, 0, none⟩) 1 1 [t] (R.take R.length ++ [t]) (R.length + 1) rfl HQ1.out rfl (rd_one (hM1b.at_ 3 rfl)) (by have := HB4.out; omega)) ?_
                rintro A6 ⟨c6, X6, hr2, hM2⟩
                refine Exists.elim (run_ints hM2 2 A6 c6 (R.take R.length ++ [t]) (R.length + 1) HQ1.out (some (bd.add R.length)) 0 (c3 - R.length) (R.drop R.length) (R.take R.length ++ [t] ++ R.drop R.length) (R.length + 1) rfl HQ2.out rfl (by simpa using rd_dropE (w := _) (A := some (bd.add R.length)) R (Nat.le_refl R.length)) (by have := HB4.out; omega)) ?_
                rintro A7 ⟨c7, X7, hr3, hM3⟩
                refine Exists.elim (run_ints HSb.out 3 none 0 [] 0 rfl (some bd) R.length c3 (R.take R.length) (R.take R.length) R.length rfl HQ.out rfl ((HSb.out.rdS1 1 rfl rfl).take (by omega)) (by have := HB4.out; omega)) ?_
                rintro B5 ⟨d5, V5, hs1, hK1⟩
                refine Exists.elim (run_ints hK1 3 B5 d5 (R.take R.length) R.length HQ.out (some ⟨wr.heap.size, 0, none⟩) 1 1 [t] (R.take R.length ++ [t]) (R.length + 1) rfl HQ1.out rfl (rd_one (hK1.at_ 2 rfl)) (by have := HB4.out; omega)) ?_
                rintro B6 ⟨d6, V6, hs2, hK2⟩
                refine Exists.elim (run_ints hK2 3 B6 d6 (R.take R.length ++ [t]) (R.length + 1) HQ1.out (some (bd.add R.length)) 0 (c3 - R.length) (R.drop R.length) (R.take R.length ++ [t] ++ R.drop R.length) (R.length + 1) rfl HQ2.out rfl (by simpa using rd_dropE (w := _) (A := some (bd.add R.length)) R (Nat.le_refl R.length)) (by have := HB4.out; omega)) ?_
                rintro B7 ⟨d7, V7, hs3, hK3⟩
                rw [← HN.out] at hM3 hK3
                have HF1 := Lib.hid (hM3.two 0 2 rfl rfl (by decide))
                have HF2 := Lib.hid (hK3.two 0 3 rfl rfl (by decide))
                clear hM1 hM1b hM2 hM3 hK1 hK2 hK3 HSd HSb
                have Hhr1 := Lib.hid (fun (o : Oper) (a : Act) (K : Act → World → Prop) (Q : Exit → Act → World → Prop) (s x : Operand) (ho : o.op = .call { callee := .builtin .append, args := #[s, x], argTypes := #[103, 103] }) (hot : o.type = 103) (hs : a.eval s = (.slice none 0 0)) (hx : a.eval x = (.slice (some bd) R.length c3)) (hK : K (a.put o.dst (.slice A5 R.length c5)) X5) => (wp_append s x 103 ho _ _ hs hx _ (by rw [hot]; exact hr1) hK : o.wp Tryd.prog a wr.drew K Q))
                have Hhr2 := Lib.hid (fun (o : Oper) (a : Act) (K : Act → World → Prop) (Q : Exit → Act → World → Prop) (s x : Operand) (ho : o.op = .call { callee := .builtin .append, args := #[s, x], argTypes := #[103, 103] }) (hot : o.type = 103) (hs : a.eval s = (.slice A5 R.length c5)) (hx : a.eval x = (.slice (some ⟨X5.heap.size, 0, none⟩) 1 1)) (hK : K (a.put o.dst (.slice A6 (R.length + 1) c6)) X6) => (wp_append s x 103 ho _ _ hs hx _ (by rw [hot]; exact hr2) hK : o.wp Tryd.prog a (X5.alloc (.cells #[.int .i64 t] 3)) K Q))
                have Hhr3 := Lib.hid (fun (o : Oper) (a : Act) (K : Act → World → Prop) (Q : Exit → Act → World → Prop) (s x : Operand) (ho : o.op = .call { callee := .builtin .append, args := #[s, x], argTypes := #[103, 103] }) (hot : o.type = 103) (hs : a.eval s = (.slice A6 (R.length + 1) c6)) (hx : a.eval x = (.slice (some (bd.add R.length)) 0 (c3 - R.length))) (hK : K (a.put o.dst (.slice A7 (R.length + 1) c7)) X7) => (wp_append s x 103 ho _ _ hs hx _ (by rw [hot]; exact hr3) hK : o.wp Tryd.prog a X6 K Q))
                have Hhs1 := Lib.hid (fun (o : Oper) (a : Act) (K : Act → World → Prop) (Q : Exit → Act → World → Prop) (s x : Operand) (ho : o.op = .call { callee := .builtin .append, args := #[s, x], argTypes := #[103, 103] }) (hot : o.type = 103) (hs : a.eval s = (.slice none 0 0)) (hx : a.eval x = (.slice (some bd) R.length c3)) (hK : K (a.put o.dst (.slice B5 R.length d5)) V5) => (wp_append s x 103 ho _ _ hs hx _ (by rw [hot]; exact hs1) hK : o.wp Tryd.prog a ((wr.alloc (.cells #[.int .i64 t] 3)).drew) K Q))
                have Hhs2 := Lib.hid (fun (o : Oper) (a : Act) (K : Act → World → Prop) (Q : Exit → Act → World → Prop) (s x : Operand) (ho : o.op = .call { callee := .builtin .append, args := #[s, x], argTypes := #[103, 103] }) (hot : o.type = 103) (hs : a.eval s = (.slice B5 R.length d5)) (hx : a.eval x = (.slice (some ⟨wr.heap.size, 0, none⟩) 1 1)) (hK : K (a.put o.dst (.slice B6 (R.length + 1) d6)) V6) => (wp_append s x 103 ho _ _ hs hx _ (by rw [hot]; exact hs2) hK : o.wp Tryd.prog a V5 K Q))
                have Hhs3 := Lib.hid (fun (o : Oper) (a : Act) (K : Act → World → Prop) (Q : Exit → Act → World → Prop) (s x : Operand) (ho : o.op = .call { callee := .builtin .append, args := #[s, x], argTypes := #[103, 103] }) (hot : o.type = 103) (hs : a.eval s = (.slice B6 (R.length + 1) d6)) (hx : a.eval x = (.slice (some (bd.add R.length)) 0 (c3 - R.length))) (hK : K (a.put o.dst (.slice B7 (R.length + 1) d7)) V7) => (wp_append s x 103 ho _ _ hs hx _ (by rw [hot]; exact hs3) hK : o.wp Tryd.prog a V6 K Q))
                go_region_held3 (fun _ => True) (exact trivial) (first | (rw [if_pos (by rfl)]; refine Hhr1.out _ _ _ _ _ _ rfl rfl rfl rfl ?_) | (rw [if_pos (by rfl)]; refine Hhr2.out _ _ _ _ _ _ rfl rfl rfl rfl ?_) | (rw [if_pos (by rfl)]; refine Hhr3.out _ _ _ _ _ _ rfl rfl rfl rfl ?_) | (rw [if_pos (by rfl)]; refine Hhs1.out _ _ _ _ _ _ rfl rfl rfl rfl ?_) | (rw [if_pos (by rfl)]; refine Hhs2.out _ _ _ _ _ _ rfl rfl rfl rfl ?_) | (rw [if_pos (by rfl)]; refine Hhs3.out _ _ _ _ _ _ rfl rfl rfl rfl ?_))
                all_goals (try simp only [Exit.inBlock, Exit.then])
                all_goals go_wp2_with fail
                all_goals first
                  | exact ⟨⟨k + 1, A7, c7, by omega, by go_num, by rw [HNl.out], HF1⟩, by simp [intOf]; omega⟩
                  | exact ⟨⟨k + 1, B7, d7, by omega, by go_num, by rw [HNl.out], HF2⟩, by simp [intOf]; omega⟩
    · obtain rfl : k = 2 * n := by omega
      have HEF := Lib.hid (show R = EF by rw [HRe.out, HEE.out, List.take_of_length_le (by rw [HPl.out]; exact Nat.le_refl _)])
      obtain ⟨r0a, r0b, r0c⟩ := HS2.out.rules 0 rfl
      go_wp2_with fail
      go_ret
      exact ⟨A3, c3, by rw [← HEF.out]; rfl, by rw [← HEF.out]; exact HS2.out.stillM HP.out⟩
end Go.Proofs.YtkgphbjneaagoaaDoor
