/- Back: the document's Busy. | Back: the document's plan and now. | Back: the document's Pass. | Back: far; BackPasses. | Back: the document's Head; BackHeads. -/
import Derived.Test.YtkgphbjneaagoaaDoorH8
import Derived.Test.YtkgphbjneaagoaaDoorGp
set_option linter.unusedVariables false
set_option maxRecDepth 100000
namespace Go.Proofs.YtkgphbjneaagoaaDoor
open Go.RowKit Go.Sort

theorem app_key {α : Type} {l k : List α} {i : Nat} {o : α} (hi : (l ++ k)[i]? = some o) : (i < l.length ∧ l[i]? = some o) ∨ (l.length ≤ i ∧ k[i - l.length]? = some o) := by
  rcases Nat.lt_or_ge i l.length with h2 | h2
  · rw [List.getElem?_append_left h2] at hi; exact .inl ⟨h2, hi⟩
  · rw [List.getElem?_append_right h2] at hi; exact .inr ⟨h2, hi⟩
/-- The last one, which is several, is opened. -/
theorem Ms.unall {w W : World} {ex : Nat → Prop} {l k : List Own} (h : Ms w ex (l ++ [.all k]) W) : Ms w ex (l ++ k) W := by
  have hl : ∀ (i : Nat) (o : Own), l[i]? = some o → (l ++ [Own.all k])[i]? = some o := fun i o hi => by
    rw [List.getElem?_append_left (List.getElem?_eq_some_iff.1 hi).1]; exact hi
  have ha : (l ++ [Own.all k])[l.length]? = some (.all k) := by simp
  have hA := h.ok l.length _ ha
  refine ⟨fun i o hi => ?_, fun i o hi q hq => ?_, fun i j a b hi hj hij q h1 h2 => ?_, h.turn⟩
  · rcases app_key hi with ⟨_, h1⟩ | ⟨_, h1⟩
    · exact h.ok i o (hl i o h1)
    · exact hA.1 _ o h1
  · rcases app_key hi with ⟨_, h1⟩ | ⟨_, h1⟩
    · exact h.lo i o (hl i o h1) q hq
    · exact h.lo l.length _ ha q ⟨_, o, h1, hq⟩
  · rcases app_key hi with ⟨e1, h3⟩ | ⟨e1, h3⟩ <;> rcases app_key hj with ⟨e2, h4⟩ | ⟨e2, h4⟩
    · exact h.apart i j a b (hl i a h3) (hl j b h4) hij q h1 h2
    · exact h.apart i l.length a _ (hl i a h3) ha (by omega) q h1 ⟨_, b, h4, h2⟩
    · exact h.apart j l.length b _ (hl j b h4) ha (by omega) q h2 ⟨_, a, h3, h1⟩
    · exact hA.2 _ _ a b h3 h4 (by omega) q h1 h2
/-- The last ones are seen as one. -/
theorem Ms.reall {w W : World} {ex : Nat → Prop} {l k : List Own} (h : Ms w ex (l ++ k) W) : Ms w ex (l ++ [.all k]) W := by
  have hl : ∀ (i : Nat) (o : Own), l[i]? = some o → (l ++ k)[i]? = some o := fun i o hi => by
    rw [List.getElem?_append_left (List.getElem?_eq_some_iff.1 hi).1]; exact hi
  have hk : ∀ (i : Nat) (o : Own), k[i]? = some o → (l ++ k)[l.length + i]? = some o := fun i o hi => by
    rw [List.getElem?_append_right (by omega), show l.length + i - l.length = i by omega]; exact hi
  have key : ∀ (i : Nat) (o : Own), (l ++ [Own.all k])[i]? = some o → (i < l.length ∧ l[i]? = some o) ∨ (i = l.length ∧ o = .all k) := fun i o hi => by
    rcases snoc_key hi with h1 | h1
    · exact .inl ⟨(List.getElem?_eq_some_iff.1 h1).1, h1⟩
    · exact .inr h1
  refine ⟨fun i o hi => ?_, fun i o hi q hq => ?_, fun i j a b hi hj hij q h1 h2 => ?_, h.turn⟩
  · rcases key i o hi with ⟨_, h1⟩ | ⟨_, rfl⟩
    · exact h.ok i o (hl i o h1)
    · exact ⟨fun j b hj => h.ok _ b (hk j b hj), fun x y a b hx hy hxy => h.apart _ _ a b (hk x a hx) (hk y b hy) (by omega)⟩
  · rcases key i o hi with ⟨_, h1⟩ | ⟨_, rfl⟩
    · exact h.lo i o (hl i o h1) q hq
    · obtain ⟨j, b, hj, hb⟩ := hq
      exact h.lo _ b (hk j b hj) q hb
  · rcases key i a hi with ⟨e1, h3⟩ | ⟨e1, rfl⟩ <;> rcases key j b hj with ⟨e2, h4⟩ | ⟨e2, rfl⟩
    · exact h.apart i j a b (hl i a h3) (hl j b h4) hij q h1 h2
    · obtain ⟨y, b, hy, hb⟩ := h2
      exact h.apart i _ a b (hl i a h3) (hk y b hy) (by omega) q h1 hb
    · obtain ⟨y, a, hy, ha⟩ := h1
      exact h.apart j _ b a (hl j b h4) (hk y a hy) (by omega) q h2 ha
    · omega
abbrev dpP (p : Nat) (up : NS) (first : Int) (A : Option Addr) (c : Nat) (sp : List Sn) : Own := .all (dpO p up first A c sp)
/-! ### plain: what runs, in the document's profile -/
def busyD (now : Int) (rs : List Ru) : List Sn := rs.flatMap fun r => snL r.nodes now (until_ now r)
theorem busyD_snoc (now : Int) (rs : List Ru) (r : Ru) : busyD now (rs ++ [r]) = busyD now rs ++ snL r.nodes now (until_ now r) := by unfold busyD; simp
/-- The profiles tell the same, and the spans are few. -/
structure Both (t0 : Int) (up : NS) (sp : List Sn) (l : List (Sp NS)) (k : Nat) : Prop where
  goo : Goo t0 l
  holds : HoldsD t0 up sp l
  f : DpF t0 sp
  few : sp.length ≤ 24 * k
theorem lst_few {s up : NS} (h : subS s up) (hc : cnt up ≤ 24) : (lst s).length ≤ 24 := by rw [lst_length]; have := h.cnt; omega
theorem sub_of_not {s t : NS} (h : notS s t = emptyS) : subS s t := fun b hb h1 => by
  have h2 : (notS s t).getLsbD b = false := by rw [h]; exact empty_bit b
  rw [notS_bit _ _ _ hb, h1, Bool.true_and] at h2
  simpa using h2
/-- What the document asks of a take is what the code asks. -/
theorem Both.cond {t0 : Int} {up : NS} {sp : List Sn} {l : List (Sp NS)} {k : Nat} {lo hi : Int} {s : NS} (h : Both t0 up sp l k) (he : takeE up l t0 lo hi s = 0) :
    t0 ≤ lo ∧ lo < hi ∧ hi ≤ 2199023255552 ∧ notS s up = emptyS ∧ notS s (durD up sp (endsL t0 sp) lo hi) = emptyS := by
  obtain ⟨h1, h2, h3, _⟩ := takeE_zero' he
  obtain ⟨a, b, c⟩ := spanE_zero h1
  exact ⟨a, b, c, h2, by rw [durD_eq h.holds h.goo a b c]; exact h3⟩
theorem Both.take {t0 : Int} {up : NS} {sp : List Sn} {l : List (Sp NS)} {k : Nat} {lo hi : Int} {s : NS} (h : Both t0 up sp l k) (he : takeE up l t0 lo hi s = 0) (hz : takeL up l t0 lo hi s = turnL 2199023255552 lo hi (fun f => notS f s) [] l) (hc : cnt up ≤ 24) (hk : k ≤ 80) :
    Both t0 up (sp ++ snL s lo hi) (takeL up l t0 lo hi s) (k + 1) := by
  obtain ⟨a, b, c, d, e⟩ := h.cond he
  have hf := lst_few (sub_of_not d) hc
  have h4 := h.few
  exact ⟨h.goo.take, h.holds.take h.goo b hz, h.f.snoc a b c (by omega), by unfold snL; rw [List.length_append, List.length_map]; omega⟩
theorem busy_step {now : Int} {up : NS} (h0 : 0 ≤ now) (h1 : now ≤ 1099511627776) {rs : List Ru} {r : Ru} (h : RunsOk up (rs ++ [r])) (hl : rs.length ≤ 1000) :
    takeE up (busyL now up rs) now now (until_ now r) r.nodes = 0 ∧ takeL up (busyL now up rs) now now (until_ now r) r.nodes = turnL 2199023255552 now (until_ now r) (fun f => notS f r.nodes) [] (busyL now up rs) := by
  have hr : RunsOk up rs := ⟨fun x hx => h.end_ x (List.mem_append_left _ hx), fun x hx => h.up_ x (List.mem_append_left _ hx), (List.pairwise_append.1 h.apart).1⟩
  obtain ⟨i1, i2, i3⟩ := busy_holds h0 h1 hr (by omega)
  have hend := h.end_ r (by simp)
  have hlt : now < until_ now r := by unfold until_; omega
  have hle : until_ now r ≤ 2199023255552 := by unfold until_; omega
  exact take_ok (up := up) i1 (Int.le_refl _) hlt hle (h.up_ r (by simp)) (fun t h2 h3 b hb h4 => (i2 t h2 (by omega) b hb).2 ⟨h.up_ r (by simp) b hb h4, fun o ho h5 h6 => by
      obtain ⟨x, hx, rfl⟩ := List.mem_map.1 ho
      have h7 := (List.pairwise_append.1 h.apart).2.2 x hx r (by simp) b hb
      cases h8 : x.nodes.getLsbD b
      · rfl
      · rw [h7 h8] at h4; cases h4⟩) (by omega)
theorem busy_both {now : Int} {up : NS} (h0 : 0 ≤ now) (h1 : now ≤ 1099511627776) (hc : cnt up ≤ 24) : ∀ {rs : List Ru}, RunsOk up rs → rs.length ≤ 12 → Both now up (busyD now rs) (busyL now up rs) rs.length := by
  intro rs
  refine snoc_ind (P := fun rs => RunsOk up rs → rs.length ≤ 12 → Both now up (busyD now rs) (busyL now up rs) rs.length) ?_ ?_ rs
  · exact fun _ _ => ⟨goo_one now up h0 (by omega), holdsD_one now up, ⟨by simp [busyD], ⟨h0, h1⟩, fun s hs => by simp [busyD] at hs, fun s hs => by simp [busyD] at hs⟩, by simp [busyD]⟩
  · intro rs r ih h hl
    simp only [List.length_append, List.length_cons, List.length_nil] at hl
    have hr : RunsOk up rs := ⟨fun x hx => h.end_ x (List.mem_append_left _ hx), fun x hx => h.up_ x (List.mem_append_left _ hx), (List.pairwise_append.1 h.apart).1⟩
    obtain ⟨he, hz⟩ := busy_step h0 h1 h (by omega)
    have := (ih hr (by omega)).take he hz hc (by omega)
    rw [busyD_snoc, ← busy_snoc]
    simpa using this
theorem busy_at {now : Int} {up : NS} (h0 : 0 ≤ now) (h1 : now ≤ 1099511627776) (hc : cnt up ≤ 24) {rs : List Ru} (h : RunsOk up rs) (hl : rs.length ≤ 12) {k : Nat} {r : Ru} (hr : rs[k]? = some r) :
    Both now up (busyD now (rs.take k)) (busyL now up (rs.take k)) k ∧ takeE up (busyL now up (rs.take k)) now now (until_ now r) r.nodes = 0 ∧ busyD now (rs.take (k + 1)) = busyD now (rs.take k) ++ snL r.nodes now (until_ now r) ∧ (busyD now (rs.take k)).length + (lst r.nodes).length ≤ 2000 := by
  have hk : k < rs.length := (List.getElem?_eq_some_iff.1 hr).1
  have h2 := h.take (k + 1)
  rw [take_one hr] at h2
  have hlen : (rs.take k).length = k := by rw [List.length_take]; omega
  have h3 := busy_both h0 h1 hc (h.take k) (by omega)
  rw [hlen] at h3
  have h4 := lst_few (h.up_ r (List.mem_of_getElem? hr)) hc
  have h5 := h3.few
  exact ⟨h3, (busy_step h0 h1 h2 (by omega)).1, by rw [take_one hr, busyD_snoc], by omega⟩
theorem ru_nodes {W : World} {ad : Addr} {n : Nat} {rs : List Ru} (h : RdR W (some ad) n rs) {j : Nat} {y : Ru} (hj : j < n) (hy : rs[j]? = some y) : ∀ i v, [Value.int .u64 (wn y.nodes 0 : Nat), .int .u64 (wn y.nodes 1 : Nat), .int .u64 (wn y.nodes 2 : Nat), .int .u64 (wn y.nodes 3 : Nat)][i]? = some v → W.cell? ((ad.add (j * 5)).add i) = some v := by
  obtain ⟨ad2, x, e, hx, hc⟩ := h.at_ hj
  cases e
  rw [hy] at hx
  cases hx
  intro i v hv
  have hi : i < 4 := by
    by_cases h3 : i < 4
    · exact h3
    · rw [List.getElem?_eq_none (by simp; omega)] at hv; cases hv
  refine hc i v ?_
  rcases (show i = 0 ∨ i = 1 ∨ i = 2 ∨ i = 3 by omega) with rfl | rfl | rfl | rfl <;> exact hv
theorem ru_end {W : World} {ad : Addr} {n : Nat} {rs : List Ru} (h : RdR W (some ad) n rs) {j : Nat} {y : Ru} (hj : j < n) (hy : rs[j]? = some y) : W.cell? ⟨(ad.add (j * 5)).block, (ad.add (j * 5)).off + 4, none⟩ = some (.int .i64 y.end_) := by
  obtain ⟨ad2, x, e, hx, hc⟩ := h.at_ hj
  cases e
  rw [hy] at hx
  cases hx
  have e9 := hc 4 _ rfl
  rwa [add_some _ (by omega)] at e9
theorem dtake_m (p : Nat) (up : NS) (first : Int) (A : Option Addr) (c : Nat) (sp : List Sn) (l : List (Sp NS)) (k : Nat) (s : NS) (lo hi : Int) (w : World) (hO : (dpP p up first A c sp).ok w) (hB : Both first up sp l k) (he : takeE up l first lo hi s = 0) (hn : sp.length + (lst s).length ≤ 2000) :
    Calls Tryd.prog 33 #[.pointer (some ⟨p, 0, none⟩), nsV s, .int .i64 lo, .int .i64 hi] w fun e w' => e = .returned (.int .i64 0) ∧ ∃ A' c', Ms w (dpP p up first A c sp).bl [dpP p up first A' c' (sp ++ snL s lo hi)] w' := by
  obtain ⟨h0, h1, h2, h3, h4⟩ := hB.cond he
  exact (dtake_c p up first A c sp s lo hi w hO hB.f h0 h1 h2 hn h3 h4).mono fun e w' ⟨e1, A', c', hM⟩ => ⟨e1, A', c', hM.all⟩
set_option maxHeartbeats 32000000 in
theorem dbusy_c (now : Int) (up : NS) (A : Option Addr) (n c : Nat) (rs : List Ru) (B : Option Addr) (m d : Nat) (w : World) (hA : RdR w A n rs) (h0 : 0 ≤ now) (h1 : now ≤ 1099511627776) (hR : RunsOk up rs) (hc : cnt up ≤ 24) (hn : n ≤ 12) :
    Calls Tryd.prog 30 #[scV now up A n c B m d] w fun e w' => ∃ A' c', e = .returned (.agg (dpA up now A' (busyD now rs).length c')) ∧ Ms w noB [rowSn A' c' (busyD now rs)] w' := by
  have HA := Lib.hid hA
  have HLr := Lib.hid (show rs.length = n from hA.1)
  have HN := Lib.hid (show 0 ≤ now ∧ now ≤ 1099511627776 from ⟨h0, h1⟩)
  have hnI : (n : Int) ≤ 12 := by omega
  have HAT := Lib.hid (fun (k : Nat) (r : Ru) (hr : rs[k]? = some r) => busy_at h0 h1 hc hR (by have := hA.1; omega) hr)
  have HE := Lib.hid hR.end_
  have hwn : IntKind.i64.wrap (now + 1) = now + 1 := wrap_small (by omega) (by omega)
  clear hA hR hc
  go_enter Tryd.func30, Tryd.ntmps30
  have HS0 := Lib.hid (Ms.nil w noB)
  go_wp2_with (first
    | (have hq := HS0; clear hq; (with_reducible refine atBox ?_); refine wpList_alloc_b rfl (some 1) rfl 28 ((scA now up A n c B m d)) (by kernel_rfl) ?_; intro g1 W1 hb hB hg; have HS1 := Lib.hid (HS0.out.new hb hB hg); clear hb hB hg HS0)
    | (have hq := HS1; clear hq; (with_reducible refine atAlloc ?_); refine wpList_alloc_b rfl (some 2) rfl 80 (#[.int .u64 0, .int .u64 0, .int .u64 0, .int .u64 0, .int .i64 0, .slice none 0 0]) (by kernel_rfl) ?_; intro g2 W2 hb hB hg; have HS2 := Lib.hid (HS1.out.new hb hB hg); clear hb hB hg HS1; obtain ⟨r0a, r0b, r0c⟩ := HS2.out.rules 0 rfl)
    | (have hq := HS2; clear hq; (with_reducible refine atLoad ?_); refine wpList_load_at rfl 24 _ rfl (HS2.out.at_ 0 rfl) 4 (.agg #[.int .u64 (wn up 0 : Nat), .int .u64 (wn up 1 : Nat), .int .u64 (wn up 2 : Nat), .int .u64 (wn up 3 : Nat)]) rfl _ Tryd.underlying24 rfl (by kernel_rfl) (Nat.le_of_ble_eq_true rfl) rfl ?_))
  refine (dnew_c up now _ HN.out.1 HN.out.2).mono ?_
  rintro e W3 ⟨rfl, hb⟩
  have HS3 := Lib.hid (HS2.out.after hb)
  clear hb HS2 r0a r0b r0c
  go_wp2_with (first
    | (have hq := HS3; clear hq; (with_reducible refine atAlloc ?_); refine wpList_alloc_b rfl (some 3) rfl 80 (#[.int .u64 0, .int .u64 0, .int .u64 0, .int .u64 0, .int .i64 0, .slice none 0 0]) (by kernel_rfl) ?_; intro g4 W4 hb hB hg; have HS4 := Lib.hid (HS3.out.new hb hB hg); clear hb hB hg HS3)
    | (have hq := HS4; clear hq; (with_reducible refine atStore ?_); refine wpList_store_at rfl 80 _ _ rfl (HS4.out.at_ 2 rfl) (.agg (dpA up now none 0 0)) rfl rfl (by kernel_rfl) (Nat.le_of_ble_eq_true rfl) (by kernel_rfl) ?_; intro W5 hB hP; have HS5 := Lib.hid (HS4.out.put 2 rfl (new := (dpA up now none 0 0)) hB hP); clear hB hP HS4))
  have HS6 := Lib.hid (Ms.reall (l := [(.blk g1 28 (scA now up A n c B m d)), (.blk g2 80 #[.int .u64 0, .int .u64 0, .int .u64 0, .int .u64 0, .int .i64 0, .slice none 0 0])]) (k := dpO g4 up now none 0 (busyD now (rs.take 0))) (HS5.out.nilS 106 3 snC))
  clear HS5
  go_loopw [5] (fun k wr => ∃ (kk : Nat) (A2 : Option Addr) (c2 : Nat), kk ≤ n ∧ k = .int .i64 (kk : Nat) ∧ Hid (Ms w noB [(.blk g1 28 (scA now up A n c B m d)), (.blk g2 80 #[.int .u64 0, .int .u64 0, .int .u64 0, .int .u64 0, .int .i64 0, .slice none 0 0]), dpP g4 up now A2 c2 (busyD now (rs.take kk))] wr)) (fun k _ => n - (intOf k).toNat)
  case atStart => exact ⟨0, _, _, by omega, rfl, HS6⟩
  case round =>
    obtain ⟨k, A2, c2, hkn, rfl, HS7⟩ := hrel
    by_cases hlt : k < n
    · have hltI : (k : Int) < (n : Int) := by omega
      obtain ⟨ad, x, hAe, hx, hc⟩ := (HA.out.below HS7.out.below).at_ hlt
      subst hAe
      have HX := Lib.hid hx
      have HXE := Lib.hid (HE.out x (List.mem_of_getElem? hx))
      have HAX := Lib.hid (HAT.out k x hx)
      clear hc hx
      obtain ⟨r0a, r0b, r0c⟩ := HS7.out.rules 0 rfl
      go_wp2_with fail
      refine region_bt 18 (Ms w noB _) (by kernel_rfl) (by kernel_rfl) HS7.out ?_
      clear HS7 r0a r0b r0c
      intro W8 hS
      have q0 := hS.on 0 rfl
      have HCQ := Lib.hid (ru_nodes (HA.out.below hS.below) hlt HX.out)
      have qe := fun (d : Nat) (os : Array Obj) => cell_on (ru_end (HA.out.below hS.below) hlt HX.out) d os
      have HS8 := Lib.hid hS
      clear hS
      simp only [List.take_succ_cons, List.take_zero, List.drop_succ_cons, List.drop_zero]
      repeat (first | go_big_quiet_skip | (refine wpQuiet_load_ad (by kernel_rfl) 24 _ rfl (ad.add (k * 5)) ([.int .u64 (wn x.nodes 0 : Nat), .int .u64 (wn x.nodes 1 : Nat), .int .u64 (wn x.nodes 2 : Nat), .int .u64 (wn x.nodes 3 : Nat)]) (by simp) HCQ.out rfl _ (nsV x.nodes) rfl Tryd.underlying24 rfl (by kernel_rfl) ?_) | go_big_quiet_step (fail) | quiet_step (fail))
      refine wpQuiet_nil ?_
      intro W9 hb
      have HS9 := Lib.hid (HS8.out.after hb)
      clear hb HS8 q0 HCQ qe
      go_wp2_with fail
      refine (dtake_m g4 up now A2 c2 _ _ k x.nodes now (until_ now x) _ (HS9.out.ok 2 _ rfl) HAX.out.1 HAX.out.2.1 HAX.out.2.2.2).mono ?_
      rintro e W10 ⟨rfl, A10, c10, hM⟩
      have HS10 := Lib.hid (HS9.out.call 2 rfl hM)
      clear hM HS9
      go_wp2_with fail
      refine ⟨⟨k + 1, A10, c10, by omega, by go_num, ?_⟩, by simp [intOf]; omega⟩
      rw [HAX.out.2.2.1]
      exact HS10
    · obtain rfl : n = k := by omega
      have HQ := HS7.out
      rw [List.take_of_length_le (by rw [HLr.out]; exact Nat.le_refl _)] at HQ
      have HS8 := Lib.hid (Ms.unall (l := [(.blk g1 28 (scA now up A n c B m d)), (.blk g2 80 #[.int .u64 0, .int .u64 0, .int .u64 0, .int .u64 0, .int .i64 0, .slice none 0 0])]) HQ)
      clear HQ HS7
      obtain ⟨r0a, r0b, r0c⟩ := HS8.out.rules 0 rfl
      go_wp2_with (first
        | (have hq := HS8; clear hq; (with_reducible refine atLoad ?_); refine wpList_load_at rfl 80 _ rfl (HS8.out.at_ 2 rfl) 6 (.agg (dpA up now A2 (busyD now rs).length c2)) rfl _ Tryd.underlying80 rfl (by kernel_rfl) (Nat.le_of_ble_eq_true rfl) rfl ?_)
        | (have hq := HS8; clear hq; (with_reducible refine atStore ?_); refine wpList_store_at rfl 80 _ _ rfl (HS8.out.at_ 1 rfl) (.agg (dpA up now A2 (busyD now rs).length c2)) rfl rfl (by kernel_rfl) (Nat.le_of_ble_eq_true rfl) (by kernel_rfl) ?_; intro W9 hB hP; have HS9 := Lib.hid (HS8.out.put 1 rfl (new := (dpA up now A2 (busyD now rs).length c2)) hB hP); clear hB hP HS8; clear r0a r0b r0c))
      exact post_cell rfl rfl (HS9.out.at_ 1 rfl) Tryd.underlying80 rfl (by kernel_rfl) rfl ⟨A2, c2, rfl, HS9.out.selL [3] _ rfl (by decide)⟩
end Go.Proofs.YtkgphbjneaagoaaDoor

set_option linter.unusedVariables false
set_option maxRecDepth 100000
namespace Go.Proofs.YtkgphbjneaagoaaDoor
open Go.RowKit Go.Sort

theorem dearl_y (p : Nat) (up : NS) (now : Int) (A : Option Addr) (n c : Nat) (sp : List Sn) (l : List (Sp NS)) (k : Nat) (x : Wi) (y : Pl) (w : World) (hD : DpR w p up now A n c sp) (hB : Both now up sp l k) (hx : WiOk x) (h1 : now ≤ 1099511627776) (hy : planO up l now x = some y) :
    Calls Tryd.prog 46 #[.pointer (some ⟨p, 0, none⟩), .int .i64 x.n, .int .i64 x.long, .int .i64 now, nsV x.of] w fun e w' => e = .returned (.tuple #[.int .i64 y.at_, nsV y.nodes, .int .i64 0]) ∧ Below w.heap.size w w' := by
  unfold planO at hy
  obtain ⟨t, ht, rfl⟩ := Option.map_eq_some_iff.1 hy
  have h2 := dearl_c p up now A n c sp x.n x.long now x.of (some t) w hD (by have := hx.n0; omega) hx.n1 hx.l0 (by have := hx.l1; omega) (Int.le_refl _) h1 (by rw [earlD_eq hB.holds hB.goo hx.l0 (Int.le_refl _)]; exact ht)
  have hE := of_earlT ht
  have h3 := hE.will.1
  have h4 := hE.ge
  have h5 := hx.l0
  have e3 : earlV up sp now x.n x.long x.of (some t) = .tuple #[.int .i64 t, nsV (firstS (durS up l t (t + x.long) &&& x.of) x.n), .int .i64 0] := by
    have e4 := durD_eq hB.holds hB.goo h4 (show t < t + x.long by omega) (by omega) now
    unfold earlV
    simp only [e4]
  rw [e3] at h2
  exact h2
theorem dearl_n (p : Nat) (up : NS) (now : Int) (A : Option Addr) (n c : Nat) (sp : List Sn) (l : List (Sp NS)) (k : Nat) (x : Wi) (w : World) (hD : DpR w p up now A n c sp) (hB : Both now up sp l k) (hx : WiOk x) (h1 : now ≤ 1099511627776) (hy : planO up l now x = none) :
    Calls Tryd.prog 46 #[.pointer (some ⟨p, 0, none⟩), .int .i64 x.n, .int .i64 x.long, .int .i64 now, nsV x.of] w fun e w' => e = .returned (.tuple #[.int .i64 0, nsV emptyS, .int .i64 9]) ∧ Below w.heap.size w w' := by
  exact dearl_c p up now A n c sp x.n x.long now x.of none w hD (by have := hx.n0; omega) hx.n1 hx.l0 (by have := hx.l1; omega) (Int.le_refl _) h1 (by rw [earlD_eq hB.holds hB.goo hx.l0 (Int.le_refl _)]; exact planO_none hy)
set_option maxHeartbeats 8000000 in
theorem dplan_y (p : Nat) (up : NS) (now : Int) (A : Option Addr) (n c : Nat) (sp : List Sn) (l : List (Sp NS)) (k : Nat) (x : Wi) (y : Pl) (w : World) (hD : DpR w p up now A n c sp) (hB : Both now up sp l k) (hx : WiOk x) (h1 : now ≤ 1099511627776) (hy : planO up l now x = some y) :
    Calls Tryd.prog 31 #[.pointer (some ⟨p, 0, none⟩), wiV x, .int .i64 now] w fun e w' => e = .returned (.tuple #[plV y, .bool true]) ∧ Below w.heap.size w w' := by
  have HD := Lib.hid hD
  have HB := Lib.hid hB
  have HX := Lib.hid hx
  have HN := Lib.hid h1
  have HY := Lib.hid hy
  clear hD hB hx h1 hy
  have HI := Lib.hid (show y.id = x.id from by
    have h := HY.out
    unfold planO at h
    obtain ⟨t, _, rfl⟩ := Option.map_eq_some_iff.1 h
    rfl)
  go_enter Tryd.func31, Tryd.ntmps31
  have HS0 := Lib.hid (Ms.nil w noB)
  go_wp2_with (first
    | (have hq := HS0; clear hq; (with_reducible refine atBox ?_); refine wpList_alloc_b rfl (some 4) rfl 49 ((wiA x)) (by kernel_rfl) ?_; intro g1 W1 hb hB hg; have HS1 := Lib.hid (HS0.out.new hb hB hg); clear hb hB hg HS0)
    | (have hq := HS1; clear hq; (with_reducible refine atAlloc ?_); refine wpList_alloc_b rfl (some 6) rfl 60 (#[.int .i64 0, .int .i64 0, .int .u64 0, .int .u64 0, .int .u64 0, .int .u64 0]) (by kernel_rfl) ?_; intro g2 W2 hb hB hg; have HS2 := Lib.hid (HS1.out.new hb hB hg); clear hb hB hg HS1; obtain ⟨r0a, r0b, r0c⟩ := HS2.out.rules 0 rfl)
    | (have hq := HS2; clear hq; (with_reducible refine atLoad ?_); refine wpList_load_at rfl 24 _ rfl (HS2.out.at_ 0 rfl) 4 (.agg #[.int .u64 (wn x.of 0 : Nat), .int .u64 (wn x.of 1 : Nat), .int .u64 (wn x.of 2 : Nat), .int .u64 (wn x.of 3 : Nat)]) rfl _ Tryd.underlying24 rfl (by kernel_rfl) (Nat.le_of_ble_eq_true rfl) rfl ?_))
  refine (dearl_y p up now A n c sp l k x y _ (HD.out.below HS2.out.below) HB.out HX.out HN.out HY.out).mono ?_
  rintro e W3 ⟨rfl, hb⟩
  have HS3 := Lib.hid (HS2.out.after hb)
  clear hb HS2 r0a r0b r0c
  go_wp2_with (first
    | (have hq := HS3; clear hq; (with_reducible refine atAlloc ?_); refine wpList_alloc_b rfl (some 9) rfl 24 (#[.int .u64 0, .int .u64 0, .int .u64 0, .int .u64 0]) (by kernel_rfl) ?_; intro g4 W4 hb hB hg; have HS4 := Lib.hid (HS3.out.new hb hB hg); clear hb hB hg HS3)
    | (have hq := HS4; clear hq; (with_reducible refine atStore ?_); refine wpList_store_at rfl 24 _ _ rfl (HS4.out.at_ 2 rfl) (nsV y.nodes) rfl rfl (by kernel_rfl) (Nat.le_of_ble_eq_true rfl) (by kernel_rfl) ?_; intro W5 hB hP; have HS5 := Lib.hid (HS4.out.put 2 rfl (new := (nsA y.nodes)) hB hP); clear hB hP HS4; obtain ⟨r0a, r0b, r0c⟩ := HS5.out.rules 0 rfl)
    | (have hq := HS5; clear hq; (with_reducible refine atLoad ?_); refine wpList_load_at rfl 24 _ rfl (HS5.out.at_ 2 rfl) 4 (nsV y.nodes) rfl _ Tryd.underlying24 rfl (by kernel_rfl) (Nat.le_of_ble_eq_true rfl) rfl ?_)
    | (have hq := HS5; clear hq; (with_reducible refine atStore ?_); refine wpList_store_at rfl 60 _ _ rfl (HS5.out.at_ 1 rfl) (plV (⟨x.id, y.at_, y.nodes⟩ : Pl)) rfl rfl (by kernel_rfl) (Nat.le_of_ble_eq_true rfl) (by kernel_rfl) ?_; intro W6 hB hP; have HS6 := Lib.hid (HS5.out.put 1 rfl (new := (plA (⟨x.id, y.at_, y.nodes⟩ : Pl))) hB hP); clear hB hP HS5; clear r0a r0b r0c))
  exact post_cell_tmp (x := .bool true) rfl rfl rfl (HS6.out.at_ 1 rfl) Tryd.underlying60 rfl (by kernel_rfl) rfl ⟨by rw [show plV y = plV ⟨x.id, y.at_, y.nodes⟩ by rw [← HI.out]], HS6.out.below⟩
set_option maxHeartbeats 8000000 in
theorem dplan_n (p : Nat) (up : NS) (now : Int) (A : Option Addr) (n c : Nat) (sp : List Sn) (l : List (Sp NS)) (k : Nat) (x : Wi) (w : World) (hD : DpR w p up now A n c sp) (hB : Both now up sp l k) (hx : WiOk x) (h1 : now ≤ 1099511627776) (hy : planO up l now x = none) :
    Calls Tryd.prog 31 #[.pointer (some ⟨p, 0, none⟩), wiV x, .int .i64 now] w fun e w' => e = .returned (.tuple #[plV ⟨x.id, 0, emptyS⟩, .bool false]) ∧ Below w.heap.size w w' := by
  have HD := Lib.hid hD
  have HB := Lib.hid hB
  have HX := Lib.hid hx
  have HN := Lib.hid h1
  have HY := Lib.hid hy
  clear hD hB hx h1 hy
  go_enter Tryd.func31, Tryd.ntmps31
  have HS0 := Lib.hid (Ms.nil w noB)
  go_wp2_with (first
    | (have hq := HS0; clear hq; (with_reducible refine atBox ?_); refine wpList_alloc_b rfl (some 4) rfl 49 ((wiA x)) (by kernel_rfl) ?_; intro g1 W1 hb hB hg; have HS1 := Lib.hid (HS0.out.new hb hB hg); clear hb hB hg HS0)
    | (have hq := HS1; clear hq; (with_reducible refine atAlloc ?_); refine wpList_alloc_b rfl (some 6) rfl 60 (#[.int .i64 0, .int .i64 0, .int .u64 0, .int .u64 0, .int .u64 0, .int .u64 0]) (by kernel_rfl) ?_; intro g2 W2 hb hB hg; have HS2 := Lib.hid (HS1.out.new hb hB hg); clear hb hB hg HS1; obtain ⟨r0a, r0b, r0c⟩ := HS2.out.rules 0 rfl)
    | (have hq := HS2; clear hq; (with_reducible refine atLoad ?_); refine wpList_load_at rfl 24 _ rfl (HS2.out.at_ 0 rfl) 4 (.agg #[.int .u64 (wn x.of 0 : Nat), .int .u64 (wn x.of 1 : Nat), .int .u64 (wn x.of 2 : Nat), .int .u64 (wn x.of 3 : Nat)]) rfl _ Tryd.underlying24 rfl (by kernel_rfl) (Nat.le_of_ble_eq_true rfl) rfl ?_))
  refine (dearl_n p up now A n c sp l k x _ (HD.out.below HS2.out.below) HB.out HX.out HN.out HY.out).mono ?_
  rintro e W3 ⟨rfl, hb⟩
  have HS3 := Lib.hid (HS2.out.after hb)
  clear hb HS2 r0a r0b r0c
  go_wp2_with (first
    | (have hq := HS3; clear hq; (with_reducible refine atAlloc ?_); refine wpList_alloc_b rfl (some 9) rfl 24 (#[.int .u64 0, .int .u64 0, .int .u64 0, .int .u64 0]) (by kernel_rfl) ?_; intro g4 W4 hb hB hg; have HS4 := Lib.hid (HS3.out.new hb hB hg); clear hb hB hg HS3)
    | (have hq := HS4; clear hq; (with_reducible refine atStore ?_); refine wpList_store_at rfl 24 _ _ rfl (HS4.out.at_ 2 rfl) (nsV emptyS) rfl rfl (by kernel_rfl) (Nat.le_of_ble_eq_true rfl) (by kernel_rfl) ?_; intro W5 hB hP; have HS5 := Lib.hid (HS4.out.put 2 rfl (new := (nsA emptyS)) hB hP); clear hB hP HS4; obtain ⟨r0a, r0b, r0c⟩ := HS5.out.rules 0 rfl)
    | (have hq := HS5; clear hq; (with_reducible refine atLoad ?_); refine wpList_load_at rfl 24 _ rfl (HS5.out.at_ 2 rfl) 4 (nsV emptyS) rfl _ Tryd.underlying24 rfl (by kernel_rfl) (Nat.le_of_ble_eq_true rfl) rfl ?_)
    | (have hq := HS5; clear hq; (with_reducible refine atStore ?_); refine wpList_store_at rfl 60 _ _ rfl (HS5.out.at_ 1 rfl) (plV (⟨x.id, 0, emptyS⟩ : Pl)) rfl rfl (by kernel_rfl) (Nat.le_of_ble_eq_true rfl) (by kernel_rfl) ?_; intro W6 hB hP; have HS6 := Lib.hid (HS5.out.put 1 rfl (new := (plA (⟨x.id, 0, emptyS⟩ : Pl))) hB hP); clear hB hP HS5; clear r0a r0b r0c))
  exact post_cell_tmp (x := .bool false) rfl rfl rfl (HS6.out.at_ 1 rfl) Tryd.underlying60 rfl (by kernel_rfl) rfl ⟨rfl, HS6.out.below⟩
set_option maxHeartbeats 8000000 in
theorem dnow_y (p : Nat) (up : NS) (now : Int) (A : Option Addr) (n c : Nat) (sp : List Sn) (l : List (Sp NS)) (k : Nat) (x : Wi) (y : Pl) (w : World) (hD : DpR w p up now A n c sp) (hB : Both now up sp l k) (hx : WiOk x) (h1 : now ≤ 1099511627776) (hy : planO up l now x = some y) (ha : y.at_ = now) :
    Calls Tryd.prog 32 #[.pointer (some ⟨p, 0, none⟩), wiV x, .int .i64 now] w fun e w' => e = .returned (.tuple #[plV y, .bool true]) ∧ Below w.heap.size w w' := by
  have HD := Lib.hid hD
  have HB := Lib.hid hB
  have HX := Lib.hid hx
  have HN := Lib.hid h1
  have HY := Lib.hid hy
  clear hD hB hx h1 hy
  have hq : (y.at_ == now) = true := beq_iff_eq.2 ha
  clear ha
  go_enter Tryd.func32, Tryd.ntmps32
  have HS0 := Lib.hid (Ms.nil w noB)
  go_wp2_with (first
    | (have hq := HS0; clear hq; (with_reducible refine atBox ?_); refine wpList_alloc_b rfl (some 4) rfl 49 ((wiA x)) (by kernel_rfl) ?_; intro g1 W1 hb hB hg; have HS1 := Lib.hid (HS0.out.new hb hB hg); clear hb hB hg HS0)
    | (have hq := HS1; clear hq; (with_reducible refine atAlloc ?_); refine wpList_alloc_b rfl (some 6) rfl 60 (#[.int .i64 0, .int .i64 0, .int .u64 0, .int .u64 0, .int .u64 0, .int .u64 0]) (by kernel_rfl) ?_; intro g2 W2 hb hB hg; have HS2 := Lib.hid (HS1.out.new hb hB hg); clear hb hB hg HS1)
    | (have hq := HS2; clear hq; (with_reducible refine atLoad ?_); refine wpList_load_at rfl 49 _ rfl (HS2.out.at_ 0 rfl) 7 (wiV x) rfl _ Tryd.underlying49 rfl (by kernel_rfl) (Nat.le_of_ble_eq_true rfl) rfl ?_))
  refine (dplan_y p up now A n c sp l k x y _ (HD.out.below HS2.out.below) HB.out HX.out HN.out HY.out).mono ?_
  rintro e W3 ⟨rfl, hb⟩
  have HS3 := Lib.hid (HS2.out.after hb)
  clear hb HS2
  go_wp2_with (first
    | (have hq := HS3; clear hq; (with_reducible refine atAlloc ?_); refine wpList_alloc_b rfl (some 8) rfl 60 (#[.int .i64 0, .int .i64 0, .int .u64 0, .int .u64 0, .int .u64 0, .int .u64 0]) (by kernel_rfl) ?_; intro g4 W4 hb hB hg; have HS4 := Lib.hid (HS3.out.new hb hB hg); clear hb hB hg HS3)
    | (have hq := HS4; clear hq; (with_reducible refine atStore ?_); refine wpList_store_at rfl 60 _ _ rfl (HS4.out.at_ 2 rfl) (plV y) rfl rfl (by kernel_rfl) (Nat.le_of_ble_eq_true rfl) (by kernel_rfl) ?_; intro W5 hB hP; have HS5 := Lib.hid (HS4.out.put 2 rfl (new := (plA y)) hB hP); clear hB hP HS4))
  have HF := Lib.hid ((HS5.out.put 1 rfl ((HS5.out.at_ 1 rfl).six (.int .i64 y.id) (.int .i64 y.at_) (.int .u64 (wn y.nodes 0 : Nat)) (.int .u64 (wn y.nodes 1 : Nat)) (.int .u64 (wn y.nodes 2 : Nat)) (.int .u64 (wn y.nodes 3 : Nat))) (put_six W5 g2 (.int .i64 y.id) (.int .i64 y.at_) (.int .u64 (wn y.nodes 0 : Nat)) (.int .u64 (wn y.nodes 1 : Nat)) (.int .u64 (wn y.nodes 2 : Nat)) (.int .u64 (wn y.nodes 3 : Nat)))).after (Below.refl _ _).drew)
  obtain ⟨n1, n2, n3⟩ := (HS5.out.at_ 1 rfl).rules
  obtain ⟨m1, m2, m3⟩ := (HS5.out.at_ 2 rfl).rules
  have hne1 : ¬ g2 = g4 := fun e => HS5.out.apart 1 2 _ _ rfl rfl (by decide) g2 rfl e
  have hne2 : ¬ g4 = g2 := fun e => hne1 e.symm
  go_region
  all_goals go_wp2_with fail
  all_goals exact post_cell_tmp (x := .bool true) rfl rfl rfl (HF.out.at_ 1 rfl) Tryd.underlying60 rfl (by kernel_rfl) rfl ⟨rfl, HF.out.below⟩
set_option maxHeartbeats 8000000 in
theorem dnow_l (p : Nat) (up : NS) (now : Int) (A : Option Addr) (n c : Nat) (sp : List Sn) (l : List (Sp NS)) (k : Nat) (x : Wi) (y : Pl) (w : World) (hD : DpR w p up now A n c sp) (hB : Both now up sp l k) (hx : WiOk x) (h1 : now ≤ 1099511627776) (hy : planO up l now x = some y) (ha : ¬ y.at_ = now) :
    Calls Tryd.prog 32 #[.pointer (some ⟨p, 0, none⟩), wiV x, .int .i64 now] w fun e w' => e = .returned (.tuple #[plV y, .bool false]) ∧ Below w.heap.size w w' := by
  have HD := Lib.hid hD
  have HB := Lib.hid hB
  have HX := Lib.hid hx
  have HN := Lib.hid h1
  have HY := Lib.hid hy
  clear hD hB hx h1 hy
  have hq : (y.at_ == now) = false := beq_false_of_ne ha
  clear ha
  go_enter Tryd.func32, Tryd.ntmps32
  have HS0 := Lib.hid (Ms.nil w noB)
  go_wp2_with (first
    | (have hq := HS0; clear hq; (with_reducible refine atBox ?_); refine wpList_alloc_b rfl (some 4) rfl 49 ((wiA x)) (by kernel_rfl) ?_; intro g1 W1 hb hB hg; have HS1 := Lib.hid (HS0.out.new hb hB hg); clear hb hB hg HS0)
    | (have hq := HS1; clear hq; (with_reducible refine atAlloc ?_); refine wpList_alloc_b rfl (some 6) rfl 60 (#[.int .i64 0, .int .i64 0, .int .u64 0, .int .u64 0, .int .u64 0, .int .u64 0]) (by kernel_rfl) ?_; intro g2 W2 hb hB hg; have HS2 := Lib.hid (HS1.out.new hb hB hg); clear hb hB hg HS1)
    | (have hq := HS2; clear hq; (with_reducible refine atLoad ?_); refine wpList_load_at rfl 49 _ rfl (HS2.out.at_ 0 rfl) 7 (wiV x) rfl _ Tryd.underlying49 rfl (by kernel_rfl) (Nat.le_of_ble_eq_true rfl) rfl ?_))
  refine (dplan_y p up now A n c sp l k x y _ (HD.out.below HS2.out.below) HB.out HX.out HN.out HY.out).mono ?_
  rintro e W3 ⟨rfl, hb⟩
  have HS3 := Lib.hid (HS2.out.after hb)
  clear hb HS2
  go_wp2_with (first
    | (have hq := HS3; clear hq; (with_reducible refine atAlloc ?_); refine wpList_alloc_b rfl (some 8) rfl 60 (#[.int .i64 0, .int .i64 0, .int .u64 0, .int .u64 0, .int .u64 0, .int .u64 0]) (by kernel_rfl) ?_; intro g4 W4 hb hB hg; have HS4 := Lib.hid (HS3.out.new hb hB hg); clear hb hB hg HS3)
    | (have hq := HS4; clear hq; (with_reducible refine atStore ?_); refine wpList_store_at rfl 60 _ _ rfl (HS4.out.at_ 2 rfl) (plV y) rfl rfl (by kernel_rfl) (Nat.le_of_ble_eq_true rfl) (by kernel_rfl) ?_; intro W5 hB hP; have HS5 := Lib.hid (HS4.out.put 2 rfl (new := (plA y)) hB hP); clear hB hP HS4))
  have HF := Lib.hid ((HS5.out.put 1 rfl ((HS5.out.at_ 1 rfl).six (.int .i64 y.id) (.int .i64 y.at_) (.int .u64 (wn y.nodes 0 : Nat)) (.int .u64 (wn y.nodes 1 : Nat)) (.int .u64 (wn y.nodes 2 : Nat)) (.int .u64 (wn y.nodes 3 : Nat))) (put_six W5 g2 (.int .i64 y.id) (.int .i64 y.at_) (.int .u64 (wn y.nodes 0 : Nat)) (.int .u64 (wn y.nodes 1 : Nat)) (.int .u64 (wn y.nodes 2 : Nat)) (.int .u64 (wn y.nodes 3 : Nat)))).after (Below.refl _ _).drew)
  obtain ⟨n1, n2, n3⟩ := (HS5.out.at_ 1 rfl).rules
  obtain ⟨m1, m2, m3⟩ := (HS5.out.at_ 2 rfl).rules
  have hne1 : ¬ g2 = g4 := fun e => HS5.out.apart 1 2 _ _ rfl rfl (by decide) g2 rfl e
  have hne2 : ¬ g4 = g2 := fun e => hne1 e.symm
  go_region
  all_goals go_wp2_with fail
  all_goals exact post_cell_tmp (x := .bool false) rfl rfl rfl (HF.out.at_ 1 rfl) Tryd.underlying60 rfl (by kernel_rfl) rfl ⟨rfl, HF.out.below⟩
set_option maxHeartbeats 8000000 in
theorem dnow_n (p : Nat) (up : NS) (now : Int) (A : Option Addr) (n c : Nat) (sp : List Sn) (l : List (Sp NS)) (k : Nat) (x : Wi) (w : World) (hD : DpR w p up now A n c sp) (hB : Both now up sp l k) (hx : WiOk x) (h1 : now ≤ 1099511627776) (hy : planO up l now x = none) :
    Calls Tryd.prog 32 #[.pointer (some ⟨p, 0, none⟩), wiV x, .int .i64 now] w fun e w' => e = .returned (.tuple #[plV ⟨x.id, 0, emptyS⟩, .bool false]) ∧ Below w.heap.size w w' := by
  have HD := Lib.hid hD
  have HB := Lib.hid hB
  have HX := Lib.hid hx
  have HN := Lib.hid h1
  have HY := Lib.hid hy
  clear hD hB hx h1 hy
  go_enter Tryd.func32, Tryd.ntmps32
  have HS0 := Lib.hid (Ms.nil w noB)
  go_wp2_with (first
    | (have hq := HS0; clear hq; (with_reducible refine atBox ?_); refine wpList_alloc_b rfl (some 4) rfl 49 ((wiA x)) (by kernel_rfl) ?_; intro g1 W1 hb hB hg; have HS1 := Lib.hid (HS0.out.new hb hB hg); clear hb hB hg HS0)
    | (have hq := HS1; clear hq; (with_reducible refine atAlloc ?_); refine wpList_alloc_b rfl (some 6) rfl 60 (#[.int .i64 0, .int .i64 0, .int .u64 0, .int .u64 0, .int .u64 0, .int .u64 0]) (by kernel_rfl) ?_; intro g2 W2 hb hB hg; have HS2 := Lib.hid (HS1.out.new hb hB hg); clear hb hB hg HS1)
    | (have hq := HS2; clear hq; (with_reducible refine atLoad ?_); refine wpList_load_at rfl 49 _ rfl (HS2.out.at_ 0 rfl) 7 (wiV x) rfl _ Tryd.underlying49 rfl (by kernel_rfl) (Nat.le_of_ble_eq_true rfl) rfl ?_))
  refine (dplan_n p up now A n c sp l k x _ (HD.out.below HS2.out.below) HB.out HX.out HN.out HY.out).mono ?_
  rintro e W3 ⟨rfl, hb⟩
  have HS3 := Lib.hid (HS2.out.after hb)
  clear hb HS2
  go_wp2_with (first
    | (have hq := HS3; clear hq; (with_reducible refine atAlloc ?_); refine wpList_alloc_b rfl (some 8) rfl 60 (#[.int .i64 0, .int .i64 0, .int .u64 0, .int .u64 0, .int .u64 0, .int .u64 0]) (by kernel_rfl) ?_; intro g4 W4 hb hB hg; have HS4 := Lib.hid (HS3.out.new hb hB hg); clear hb hB hg HS3)
    | (have hq := HS4; clear hq; (with_reducible refine atStore ?_); refine wpList_store_at rfl 60 _ _ rfl (HS4.out.at_ 2 rfl) (plV (⟨x.id, 0, emptyS⟩ : Pl)) rfl rfl (by kernel_rfl) (Nat.le_of_ble_eq_true rfl) (by kernel_rfl) ?_; intro W5 hB hP; have HS5 := Lib.hid (HS4.out.put 2 rfl (new := (plA (⟨x.id, 0, emptyS⟩ : Pl))) hB hP); clear hB hP HS4))
  have HF := Lib.hid ((HS5.out.put 1 rfl ((HS5.out.at_ 1 rfl).six (.int .i64 x.id) (.int .i64 0) (.int .u64 (wn emptyS 0 : Nat)) (.int .u64 (wn emptyS 1 : Nat)) (.int .u64 (wn emptyS 2 : Nat)) (.int .u64 (wn emptyS 3 : Nat))) (put_six W5 g2 (.int .i64 x.id) (.int .i64 0) (.int .u64 (wn emptyS 0 : Nat)) (.int .u64 (wn emptyS 1 : Nat)) (.int .u64 (wn emptyS 2 : Nat)) (.int .u64 (wn emptyS 3 : Nat)))).after (Below.refl _ _).drew)
  obtain ⟨n1, n2, n3⟩ := (HS5.out.at_ 1 rfl).rules
  obtain ⟨m1, m2, m3⟩ := (HS5.out.at_ 2 rfl).rules
  have hne1 : ¬ g2 = g4 := fun e => HS5.out.apart 1 2 _ _ rfl rfl (by decide) g2 rfl e
  have hne2 : ¬ g4 = g2 := fun e => hne1 e.symm
  go_region
  all_goals go_wp2_with fail
  all_goals exact post_cell_tmp (x := .bool false) rfl rfl rfl (HF.out.at_ 1 rfl) Tryd.underlying60 rfl (by kernel_rfl) rfl ⟨rfl, HF.out.below⟩
end Go.Proofs.YtkgphbjneaagoaaDoor

set_option linter.unusedVariables false
set_option maxRecDepth 100000
namespace Go.Proofs.YtkgphbjneaagoaaDoor
open Go.RowKit Go.Sort

abbrev rowPlD := rowS 60 6 plL
theorem keepD {now : Int} {up : NS} {sp : List Sn} {σ : PS} {j : Nat} {x : Wi} {y : Pl} (h : Both now up sp σ.l j) (hx : WiOk x) (hy : planO up σ.l now x = some y) (hl : σ.l.length ≤ 4094) (hc : cnt up ≤ 24) (hj : j ≤ 80) :
    takeE up σ.l now y.at_ (y.at_ + x.long) y.nodes = 0 ∧ Both now up (sp ++ snL y.nodes y.at_ (y.at_ + x.long)) (σ.keep up now x y).l (j + 1) ∧ sp.length + (lst y.nodes).length ≤ 2000 ∧ (σ.keep up now x y).l.length ≤ σ.l.length + 2 := by
  obtain ⟨hp, _⟩ := planO_ok h.goo hx hy
  obtain ⟨he, hz⟩ := hp.take h.goo hx hl
  have hl0 := hx.l0
  rw [keep_l]
  refine ⟨he, h.take he hz hc hj, ?_, take_len h.goo (by omega) hz⟩
  have h1 := lst_few hp.up_ hc
  have h2 := h.few
  omega
theorem rdpl_one {w : World} {g : Nat} {t : TypeId} {y : Pl} (h : Blk w g t (plA y)) : RdPl w (some ⟨g, 0, none⟩) 1 [y] := rds_blk (k := 6) (c := plL) (l := [y]) (fun _ => rfl) h (by simp) (by simp [plL])
/-- What the document's Pass answers. -/
def PassD (w : World) (m : Nat) (σ : PS) (e : Ending) (w' : World) : Prop := ∃ As ns cs Ap np cp, e = .returned (.tuple #[.slice As ns cs, .slice Ap np cp, .int .i64 0]) ∧ (σ.s.length = ns ∧ σ.p.length = np ∧ ns ≤ m ∧ np ≤ m) ∧ Ms w noB [.all [rowPlD As cs σ.s, rowPlD Ap cp σ.p]] w'
theorem dright_y (now : Int) (up : NS) (A : Option Addr) (n c : Nat) (rs : List Ru) (B : Option Addr) (m d : Nat) (ws : List Wi) (w : World) (hA : RdR w A n rs) (hB : RdW w B m ws) (h : RightP now up rs ws) :
    Calls Tryd.prog 21 #[scV now up A n c B m d] w fun e w' => e = .returned (.bool true) ∧ Below w.heap.size w w' := by
  have := dright_c now up A n c rs B m d ws w hA hB
  rwa [rightB_yes h] at this
theorem dright_n (now : Int) (up : NS) (A : Option Addr) (n c : Nat) (rs : List Ru) (B : Option Addr) (m d : Nat) (ws : List Wi) (w : World) (hA : RdR w A n rs) (hB : RdW w B m ws) (h : ¬ RightP now up rs ws) :
    Calls Tryd.prog 21 #[scV now up A n c B m d] w fun e w' => e = .returned (.bool false) ∧ Below w.heap.size w w' := by
  have := dright_c now up A n c rs B m d ws w hA hB
  rwa [rightB_no h] at this
theorem start_both {now : Int} {up : NS} {rs : List Ru} {n : Nat} (h0 : 0 ≤ now) (h1 : now ≤ 1099511627776) (hc : cnt up ≤ 24) (hr : RunsOk up rs) (hn : rs.length = n) (hl : n ≤ 12) : Both now up (busyD now rs) (startP now up rs).l (n + 0) ∧ (startP now up rs).l.length ≤ 1 + 2 * (n + 0) := by
  subst hn
  exact ⟨busy_both h0 h1 hc hr hl, (busy_holds h0 h1 hr (by omega)).2.2⟩
set_option maxHeartbeats 8000000 in
theorem dpass_no (now : Int) (up : NS) (A : Option Addr) (n c : Nat) (rs : List Ru) (B : Option Addr) (m d : Nat) (ws : List Wi) (mode : Int) (w : World) (hA : RdR w A n rs) (hB : RdW w B m ws) (h : ¬ (RightP now up rs ws ∧ 0 ≤ mode ∧ mode ≤ 2)) :
    Calls Tryd.prog 13 #[scV now up A n c B m d, .int .i64 mode] w fun e w' => e = .returned (.tuple #[.slice none 0 0, .slice none 0 0, .int .i64 1]) ∧ Below w.heap.size w w' := by
  have HA := Lib.hid hA
  have HB := Lib.hid hB
  clear hA hB
  by_cases hr : RightP now up rs ws
  · have HR := Lib.hid hr
    have hm : mode < 0 ∨ 2 < mode := by
      have : ¬ (0 ≤ mode ∧ mode ≤ 2) := fun h2 => h ⟨hr, h2⟩
      omega
    clear h hr
    rcases hm with hm | hm
    · go_enter Tryd.func13, Tryd.ntmps13
      have HS0 := Lib.hid (Ms.nil w noB)
      go_wp2_with (first
        | (have hq := HS0; clear hq; (with_reducible refine atBox ?_); refine wpList_alloc_b rfl (some 2) rfl 28 ((scA now up A n c B m d)) (by kernel_rfl) ?_; intro g1 W1 hb hB hg; have HS1 := Lib.hid (HS0.out.new hb hB hg); clear hb hB hg HS0)
        | (have hq := HS1; clear hq; (with_reducible refine atLoad ?_); refine wpList_load_at rfl 28 _ rfl (HS1.out.at_ 0 rfl) 7 (scV now up A n c B m d) rfl _ Tryd.underlying28 rfl (by kernel_rfl) (Nat.le_of_ble_eq_true rfl) rfl ?_))
      refine (dright_y now up A n c rs B m d ws _ (HA.out.below HS1.out.below) (HB.out.below HS1.out.below) HR.out).mono ?_
      rintro e W2 ⟨rfl, hb⟩
      have HS2 := Lib.hid (HS1.out.after hb)
      clear hb HS1
      go_wp2_with fail
      go_ret3
      exact ⟨rfl, HS2.out.below⟩
    · have hm0 : 0 ≤ mode := by omega
      go_enter Tryd.func13, Tryd.ntmps13
      have HS0 := Lib.hid (Ms.nil w noB)
      go_wp2_with (first
        | (have hq := HS0; clear hq; (with_reducible refine atBox ?_); refine wpList_alloc_b rfl (some 2) rfl 28 ((scA now up A n c B m d)) (by kernel_rfl) ?_; intro g1 W1 hb hB hg; have HS1 := Lib.hid (HS0.out.new hb hB hg); clear hb hB hg HS0)
        | (have hq := HS1; clear hq; (with_reducible refine atLoad ?_); refine wpList_load_at rfl 28 _ rfl (HS1.out.at_ 0 rfl) 7 (scV now up A n c B m d) rfl _ Tryd.underlying28 rfl (by kernel_rfl) (Nat.le_of_ble_eq_true rfl) rfl ?_))
      refine (dright_y now up A n c rs B m d ws _ (HA.out.below HS1.out.below) (HB.out.below HS1.out.below) HR.out).mono ?_
      rintro e W2 ⟨rfl, hb⟩
      have HS2 := Lib.hid (HS1.out.after hb)
      clear hb HS1
      go_wp2_with fail
      go_ret3
      exact ⟨rfl, HS2.out.below⟩
  · have HR := Lib.hid hr
    clear h hr
    go_enter Tryd.func13, Tryd.ntmps13
    have HS0 := Lib.hid (Ms.nil w noB)
    go_wp2_with (first
      | (have hq := HS0; clear hq; (with_reducible refine atBox ?_); refine wpList_alloc_b rfl (some 2) rfl 28 ((scA now up A n c B m d)) (by kernel_rfl) ?_; intro g1 W1 hb hB hg; have HS1 := Lib.hid (HS0.out.new hb hB hg); clear hb hB hg HS0)
      | (have hq := HS1; clear hq; (with_reducible refine atLoad ?_); refine wpList_load_at rfl 28 _ rfl (HS1.out.at_ 0 rfl) 7 (scV now up A n c B m d) rfl _ Tryd.underlying28 rfl (by kernel_rfl) (Nat.le_of_ble_eq_true rfl) rfl ?_))
    refine (dright_n now up A n c rs B m d ws _ (HA.out.below HS1.out.below) (HB.out.below HS1.out.below) HR.out).mono ?_
    rintro e W2 ⟨rfl, hb⟩
    have HS2 := Lib.hid (HS1.out.after hb)
    clear hb HS1
    go_wp2_with fail
    go_ret3
    exact ⟨rfl, HS2.out.below⟩
set_option maxHeartbeats 64000000 in
theorem dpass_yes (now : Int) (up : NS) (A : Option Addr) (n c : Nat) (rs : List Ru) (B : Option Addr) (m d : Nat) (ws : List Wi) (mode : Int) (w : World) (hA : RdR w A n rs) (hB : RdW w B m ws) (hR : RightP now up rs ws) (h0 : 0 ≤ mode) (h2 : mode ≤ 2) (hc : cnt up ≤ 24) (hn : n ≤ 12) (hm : m ≤ 12) (σ : PS) (hσ : σ = passP mode up now rs ws) :
    Calls Tryd.prog 13 #[scV now up A n c B m d, .int .i64 mode] w (PassD w m σ) := by
  obtain ⟨F, hF⟩ := walk_of mode up now rs ws hR.n0 hR.n1
  have HWK := Lib.hid hF
  have HA := Lib.hid hA
  have HB := Lib.hid hB
  have HR := Lib.hid hR
  have HLw := Lib.hid (show ws.length = m from hB.1)
  have HM := Lib.hid (show 0 ≤ mode ∧ mode ≤ 2 from ⟨h0, h2⟩)
  have HCN := Lib.hid (show cnt up ≤ 24 ∧ n ≤ 12 ∧ m ≤ 12 from ⟨hc, hn, hm⟩)
  have HST := Lib.hid (start_both hR.n0 hR.n1 hc hR.runs hA.1 hn)
  have HSG := Lib.hid hσ
  have HLE := Lib.hid (fun k => (show (F k).s.length ≤ m ∧ (F k).p.length ≤ m from by have := hF.len k; have := hB.1; omega))
  have hmI : (m : Int) ≤ 12 := by omega
  have hnI : (n : Int) ≤ 12 := by omega
  clear hF hA hB hR hc hn hm hσ
  go_enter Tryd.func13, Tryd.ntmps13
  have HS0 := Lib.hid (Ms.nil w noB)
  go_wp2_with (first
    | (have hq := HS0; clear hq; (with_reducible refine atBox ?_); refine wpList_alloc_b rfl (some 2) rfl 28 ((scA now up A n c B m d)) (by kernel_rfl) ?_; intro g1 W1 hb hB hg; have HS1 := Lib.hid (HS0.out.new hb hB hg); clear hb hB hg HS0)
    | (have hq := HS1; clear hq; (with_reducible refine atLoad ?_); refine wpList_load_at rfl 28 _ rfl (HS1.out.at_ 0 rfl) 7 (scV now up A n c B m d) rfl _ Tryd.underlying28 rfl (by kernel_rfl) (Nat.le_of_ble_eq_true rfl) rfl ?_))
  refine (dright_y now up A n c rs B m d ws _ (HA.out.below HS1.out.below) (HB.out.below HS1.out.below) HR.out).mono ?_
  rintro e W2 ⟨rfl, hb⟩
  have HS2 := Lib.hid (HS1.out.after hb)
  clear hb HS1
  go_wp2_with (have hq := HS2; clear hq; (with_reducible refine atLoad ?_); refine wpList_load_at rfl 28 _ rfl (HS2.out.at_ 0 rfl) 7 (scV now up A n c B m d) rfl _ Tryd.underlying28 rfl (by kernel_rfl) (Nat.le_of_ble_eq_true rfl) rfl ?_)
  refine (dbusy_c now up A n c rs B m d _ (HA.out.below HS2.out.below) HR.out.n0 HR.out.n1 HR.out.runs HCN.out.1 HCN.out.2.1).mono ?_
  rintro e W3 ⟨A1, c1, rfl, hM⟩
  have HS3 := Lib.hid (HS2.out.made hM)
  clear hM HS2
  go_wp2_with (first
    | (have hq := HS3; clear hq; (with_reducible refine atAlloc ?_); refine wpList_alloc_b rfl (some 7) rfl 80 (#[.int .u64 0, .int .u64 0, .int .u64 0, .int .u64 0, .int .i64 0, .slice none 0 0]) (by kernel_rfl) ?_; intro g4 W4 hb hB hg; have HS4 := Lib.hid (HS3.out.new hb hB hg); clear hb hB hg HS3)
    | (have hq := HS4; clear hq; (with_reducible refine atStore ?_); refine wpList_store_at rfl 80 _ _ rfl (HS4.out.at_ 2 rfl) (.agg (dpA up now A1 (busyD now rs).length c1)) rfl rfl (by kernel_rfl) (Nat.le_of_ble_eq_true rfl) (by kernel_rfl) ?_; intro W5 hB hP; have HS5 := Lib.hid (HS4.out.put 2 rfl (new := (dpA up now A1 (busyD now rs).length c1)) hB hP); clear hB hP HS4))
  have HS6 := Lib.hid (((Ms.reall (l := [(.blk g1 28 (scA now up A n c B m d))]) (k := dpO g4 up now A1 c1 (busyD now rs)) (HS5.out.selL [0, 2, 1] _ rfl (by decide))).nilS 60 6 plL).nilS 60 6 plL)
  clear HS5
  go_loopw [10, 8, 9] (fun i b e wr => ∃ (kk : Nat) (sp : List Sn) (A2 : Option Addr) (c2 : Nat) (As : Option Addr) (ns cs : Nat) (Ap : Option Addr) (np cp : Nat), kk ≤ m ∧ i = .int .i64 (kk : Nat) ∧ b = .slice As ns cs ∧ e = .slice Ap np cp ∧ Hid ((F kk).s.length = ns ∧ (F kk).p.length = np) ∧ Hid ((F kk).stop = false) ∧ Hid (Both now up sp (F kk).l (n + kk) ∧ (F kk).l.length ≤ 1 + 2 * (n + kk)) ∧ Hid (Ms w noB [(.blk g1 28 (scA now up A n c B m d)), dpP g4 up now A2 c2 sp, rowPlD As cs (F kk).s, rowPlD Ap cp (F kk).p] wr)) (fun i _ _ _ => m - (intOf i).toNat)
  case atStart =>
    refine ⟨0, busyD now rs, A1, c1, _, _, _, _, _, _, by omega, rfl, rfl, rfl, Lib.hid ?_, Lib.hid ?_, Lib.hid ?_, ?_⟩
    · rw [HWK.out.zero]; exact ⟨rfl, rfl⟩
    · rw [HWK.out.zero]; rfl
    · rw [HWK.out.zero]; exact HST.out
    · rw [HWK.out.zero]; exact HS6
  case round =>
    obtain ⟨k, sp, A2, c2, As, ns, cs, Ap, np, cp, hkm, rfl, rfl, rfl, HLS, HSP, HBO, HS7⟩ := hrel
    have HLE2 := Lib.hid (show ns ≤ 12 ∧ np ≤ 12 from by have := HLE.out k; have := HLS.out; have := HCN.out; omega)
    have hnsI : (ns : Int) ≤ 12 := by have := HLE2.out; omega
    have hnpI : (np : Int) ≤ 12 := by have := HLE2.out; omega
    by_cases hlt : k < m
    · have hltI : (k : Int) < (m : Int) := by omega
      obtain ⟨ad, x, hBe, hx, hc⟩ := (HB.out.below HS7.out.below).at_ hlt
      subst hBe
      have HC := Lib.hid hc
      have HX := Lib.hid hx
      have HXO := Lib.hid (HR.out.wish.ok x (List.mem_of_getElem? hx))
      have HST2 := Lib.hid (HWK.out.step k x hx)
      have HLX := Lib.hid (show 1 ≤ x.long ∧ x.long ≤ 1048576 from ⟨HXO.out.l0, HXO.out.l1⟩)
      clear hc hx
      cases hpl : planO up (F k).l now x with
      | none =>
        have HPY := Lib.hid hpl
        clear hpl
        by_cases hm : mode = 0
        · subst hm
          have HSTP := Lib.hid (HST2.out.trans (step_none0 HSP.out HPY.out))
          obtain ⟨r0a, r0b, r0c⟩ := HS7.out.rules 0 rfl
          go_wp2_with (first
            | (have hq := HC; clear hq; refine wpList_load_ad (by kernel_rfl) 49 _ rfl (ad.add (k * 7)) ((wiL x)) HC.out rfl _ (wiV x) rfl Tryd.underlying49 rfl (by kernel_rfl) ?_; clear HC)
            | (have hq := HS7; clear hq; (with_reducible refine atAlloc ?_); refine wpList_alloc_b rfl (some 11) rfl 49 (#[.int .i64 0, .int .i64 0, .int .i64 0, .int .u64 0, .int .u64 0, .int .u64 0, .int .u64 0]) (by kernel_rfl) ?_; intro g8 W8 hb hB hg; have HS8 := Lib.hid (HS7.out.new hb hB hg); clear hb hB hg HS7; clear r0a r0b r0c)
            | (have hq := HS8; clear hq; (with_reducible refine atStore ?_); refine wpList_store_at rfl 49 _ _ rfl (HS8.out.at_ 4 rfl) (wiV x) rfl rfl (by kernel_rfl) (Nat.le_of_ble_eq_true rfl) (by kernel_rfl) ?_; intro W9 hB hP; have HS9 := Lib.hid (HS8.out.put 4 rfl (new := (wiA x)) hB hP); clear hB hP HS8; obtain ⟨r0a, r0b, r0c⟩ := HS9.out.rules 0 rfl)
            | (have hq := HS9; clear hq; (with_reducible refine atLoad ?_); refine wpList_load_at rfl 49 _ rfl (HS9.out.at_ 4 rfl) 7 (wiV x) rfl _ Tryd.underlying49 rfl (by kernel_rfl) (Nat.le_of_ble_eq_true rfl) rfl ?_))
          refine (dplan_n g4 up now _ _ _ sp (F k).l (n + k) x _ (HBO.out.1.f.at_ (HS9.out.openAt 1 rfl) 0 1 rfl rfl) HBO.out.1 HXO.out HR.out.n1 HPY.out).mono ?_
          rintro e W10 ⟨rfl, hb⟩
          have HS10 := Lib.hid (HS9.out.after hb)
          clear hb HS9 r0a r0b r0c
          go_wp2_with (first
            | (have hq := HS10; clear hq; (with_reducible refine atAlloc ?_); refine wpList_alloc_b rfl (some 12) rfl 60 (#[.int .i64 0, .int .i64 0, .int .u64 0, .int .u64 0, .int .u64 0, .int .u64 0]) (by kernel_rfl) ?_; intro g11 W11 hb hB hg; have HS11 := Lib.hid (HS10.out.new hb hB hg); clear hb hB hg HS10)
            | (have hq := HS11; clear hq; (with_reducible refine atStore ?_); refine wpList_store_at rfl 60 _ _ rfl (HS11.out.at_ 5 rfl) (plV (⟨x.id, 0, emptyS⟩ : Pl)) rfl rfl (by kernel_rfl) (Nat.le_of_ble_eq_true rfl) (by kernel_rfl) ?_; intro W12 hB hP; have HS12 := Lib.hid (HS11.out.put 5 rfl (new := (plA (⟨x.id, 0, emptyS⟩ : Pl))) hB hP); clear hB hP HS11; obtain ⟨r0a, r0b, r0c⟩ := HS12.out.rules 0 rfl)
            | (have hq := HS12; clear hq; (with_reducible refine atLoad ?_); refine wpList_load_at rfl 49 _ rfl (HS12.out.at_ 4 rfl) 7 (wiV x) rfl _ Tryd.underlying49 rfl (by kernel_rfl) (Nat.le_of_ble_eq_true rfl) rfl ?_))
          refine (dnow_n g4 up now _ _ _ sp (F k).l (n + k) x _ (HBO.out.1.f.at_ (HS12.out.openAt 1 rfl) 0 1 rfl rfl) HBO.out.1 HXO.out HR.out.n1 HPY.out).mono ?_
          rintro e W13 ⟨rfl, hb⟩
          have HS13 := Lib.hid (HS12.out.after hb)
          clear hb HS12 r0a r0b r0c
          go_wp2_with (first
            | (have hq := HS13; clear hq; (with_reducible refine atAlloc ?_); refine wpList_alloc_b rfl (some 14) rfl 60 (#[.int .i64 0, .int .i64 0, .int .u64 0, .int .u64 0, .int .u64 0, .int .u64 0]) (by kernel_rfl) ?_; intro g14 W14 hb hB hg; have HS14 := Lib.hid (HS13.out.new hb hB hg); clear hb hB hg HS13)
            | (have hq := HS14; clear hq; (with_reducible refine atStore ?_); refine wpList_store_at rfl 60 _ _ rfl (HS14.out.at_ 6 rfl) (plV (⟨x.id, 0, emptyS⟩ : Pl)) rfl rfl (by kernel_rfl) (Nat.le_of_ble_eq_true rfl) (by kernel_rfl) ?_; intro W15 hB hP; have HS15 := Lib.hid (HS14.out.put 6 rfl (new := (plA (⟨x.id, 0, emptyS⟩ : Pl))) hB hP); clear hB hP HS14))
          go_wp2_with fail
          go_ret3
          have HE := HWK.out.stop (k + 1) (by rw [HSTP.out])
          rw [HSTP.out] at HE
          have hp0 : σ.p = [] := by rw [HSG.out]; exact none_p up now ws _ rfl
          have hs0 : σ.s = (F k).s := by rw [HSG.out, ← HE]
          refine ⟨As, ns, cs, none, 0, 0, rfl, ⟨by rw [hs0]; exact HLS.out.1, by rw [hp0]; rfl, by have := HLE.out k; have := HLS.out; omega, by omega⟩, ?_⟩
          rw [hp0, hs0]
          exact ((HS15.out.nilS 60 6 plL).selL [2, 7] _ rfl (by decide)).all
        · have HSTP := Lib.hid (HST2.out.trans (step_none HSP.out HPY.out hm))
          have hmb : (mode == 0) = false := beq_false_of_ne hm
          clear hm
          obtain ⟨r0a, r0b, r0c⟩ := HS7.out.rules 0 rfl
          go_wp2_with (first
            | (have hq := HC; clear hq; refine wpList_load_ad (by kernel_rfl) 49 _ rfl (ad.add (k * 7)) ((wiL x)) HC.out rfl _ (wiV x) rfl Tryd.underlying49 rfl (by kernel_rfl) ?_; clear HC)
            | (have hq := HS7; clear hq; (with_reducible refine atAlloc ?_); refine wpList_alloc_b rfl (some 11) rfl 49 (#[.int .i64 0, .int .i64 0, .int .i64 0, .int .u64 0, .int .u64 0, .int .u64 0, .int .u64 0]) (by kernel_rfl) ?_; intro g8 W8 hb hB hg; have HS8 := Lib.hid (HS7.out.new hb hB hg); clear hb hB hg HS7; clear r0a r0b r0c)
            | (have hq := HS8; clear hq; (with_reducible refine atStore ?_); refine wpList_store_at rfl 49 _ _ rfl (HS8.out.at_ 4 rfl) (wiV x) rfl rfl (by kernel_rfl) (Nat.le_of_ble_eq_true rfl) (by kernel_rfl) ?_; intro W9 hB hP; have HS9 := Lib.hid (HS8.out.put 4 rfl (new := (wiA x)) hB hP); clear hB hP HS8; obtain ⟨r0a, r0b, r0c⟩ := HS9.out.rules 0 rfl)
            | (have hq := HS9; clear hq; (with_reducible refine atLoad ?_); refine wpList_load_at rfl 49 _ rfl (HS9.out.at_ 4 rfl) 7 (wiV x) rfl _ Tryd.underlying49 rfl (by kernel_rfl) (Nat.le_of_ble_eq_true rfl) rfl ?_))
          refine (dplan_n g4 up now _ _ _ sp (F k).l (n + k) x _ (HBO.out.1.f.at_ (HS9.out.openAt 1 rfl) 0 1 rfl rfl) HBO.out.1 HXO.out HR.out.n1 HPY.out).mono ?_
          rintro e W10 ⟨rfl, hb⟩
          have HS10 := Lib.hid (HS9.out.after hb)
          clear hb HS9 r0a r0b r0c
          go_wp2_with (first
            | (have hq := HS10; clear hq; (with_reducible refine atAlloc ?_); refine wpList_alloc_b rfl (some 12) rfl 60 (#[.int .i64 0, .int .i64 0, .int .u64 0, .int .u64 0, .int .u64 0, .int .u64 0]) (by kernel_rfl) ?_; intro g11 W11 hb hB hg; have HS11 := Lib.hid (HS10.out.new hb hB hg); clear hb hB hg HS10)
            | (have hq := HS11; clear hq; (with_reducible refine atStore ?_); refine wpList_store_at rfl 60 _ _ rfl (HS11.out.at_ 5 rfl) (plV (⟨x.id, 0, emptyS⟩ : Pl)) rfl rfl (by kernel_rfl) (Nat.le_of_ble_eq_true rfl) (by kernel_rfl) ?_; intro W12 hB hP; have HS12 := Lib.hid (HS11.out.put 5 rfl (new := (plA (⟨x.id, 0, emptyS⟩ : Pl))) hB hP); clear hB hP HS11; obtain ⟨r0a, r0b, r0c⟩ := HS12.out.rules 0 rfl)
            | (have hq := HS12; clear hq; (with_reducible refine atLoad ?_); refine wpList_load_at rfl 49 _ rfl (HS12.out.at_ 4 rfl) 7 (wiV x) rfl _ Tryd.underlying49 rfl (by kernel_rfl) (Nat.le_of_ble_eq_true rfl) rfl ?_))
          refine (dnow_n g4 up now _ _ _ sp (F k).l (n + k) x _ (HBO.out.1.f.at_ (HS12.out.openAt 1 rfl) 0 1 rfl rfl) HBO.out.1 HXO.out HR.out.n1 HPY.out).mono ?_
          rintro e W13 ⟨rfl, hb⟩
          have HS13 := Lib.hid (HS12.out.after hb)
          clear hb HS12 r0a r0b r0c
          go_wp2_with (first
            | (have hq := HS13; clear hq; (with_reducible refine atAlloc ?_); refine wpList_alloc_b rfl (some 14) rfl 60 (#[.int .i64 0, .int .i64 0, .int .u64 0, .int .u64 0, .int .u64 0, .int .u64 0]) (by kernel_rfl) ?_; intro g14 W14 hb hB hg; have HS14 := Lib.hid (HS13.out.new hb hB hg); clear hb hB hg HS13)
            | (have hq := HS14; clear hq; (with_reducible refine atStore ?_); refine wpList_store_at rfl 60 _ _ rfl (HS14.out.at_ 6 rfl) (plV (⟨x.id, 0, emptyS⟩ : Pl)) rfl rfl (by kernel_rfl) (Nat.le_of_ble_eq_true rfl) (by kernel_rfl) ?_; intro W15 hB hP; have HS15 := Lib.hid (HS14.out.put 6 rfl (new := (plA (⟨x.id, 0, emptyS⟩ : Pl))) hB hP); clear hB hP HS14))
          go_wp2_with fail
          refine ⟨⟨k + 1, sp, A2, c2, As, ns, cs, Ap, np, cp, by omega, by go_num, rfl, rfl, Lib.hid ?_, Lib.hid ?_, Lib.hid ?_, ?_⟩, by simp [intOf]; omega⟩
          · rw [HSTP.out]; exact HLS.out
          · rw [HSTP.out]; exact HSP.out
          · rw [HSTP.out]; exact ⟨⟨HBO.out.1.goo, HBO.out.1.holds, HBO.out.1.f, by have := HBO.out.1.few; omega⟩, by have := HBO.out.2; omega⟩
          · rw [HSTP.out]; exact Lib.hid (Ms.cut (l := [(.blk g1 28 (scA now up A n c (some ad) m d)), dpP g4 up now A2 c2 sp, rowPlD As cs (F k).s, rowPlD Ap cp (F k).p]) (k := [(.blk g8 49 (wiA x)), (.blk g11 60 (plA (⟨x.id, 0, emptyS⟩ : Pl))), (.blk g14 60 (plA (⟨x.id, 0, emptyS⟩ : Pl)))]) HS15.out)
      | some y =>
        have HPY := Lib.hid hpl
        clear hpl
        have HKD := Lib.hid (keepD HBO.out.1 HXO.out HPY.out (by have := HBO.out.2; have := HCN.out; omega) HCN.out.1 (by have := HCN.out; omega))
        have HYA := Lib.hid (show now ≤ y.at_ ∧ y.at_ ≤ 2199023255552 from plan_at HBO.out.1.goo HXO.out HPY.out)
        have hwy : IntKind.i64.wrap (y.at_ + x.long) = y.at_ + x.long := wrap_small (by have := HYA.out; have := HLX.out; have := HR.out.n0; omega) (by have := HYA.out; have := HLX.out; omega)
        by_cases hat : y.at_ = now
        · have HSTP := Lib.hid (HST2.out.trans (step_now HSP.out HPY.out hat))
          have HAT := Lib.hid hat
          clear hat
          have HLN := Lib.hid HLS.out.1
          have HLN1 := Lib.hid (show ((F k).s ++ [y]).length = ns + 1 by rw [List.length_append, HLN.out]; rfl)
          have HLB := Lib.hid HLE2.out.1
          obtain ⟨r0a, r0b, r0c⟩ := HS7.out.rules 0 rfl
          go_wp2_with (first
            | (have hq := HC; clear hq; refine wpList_load_ad (by kernel_rfl) 49 _ rfl (ad.add (k * 7)) ((wiL x)) HC.out rfl _ (wiV x) rfl Tryd.underlying49 rfl (by kernel_rfl) ?_; clear HC)
            | (have hq := HS7; clear hq; (with_reducible refine atAlloc ?_); refine wpList_alloc_b rfl (some 11) rfl 49 (#[.int .i64 0, .int .i64 0, .int .i64 0, .int .u64 0, .int .u64 0, .int .u64 0, .int .u64 0]) (by kernel_rfl) ?_; intro g8 W8 hb hB hg; have HS8 := Lib.hid (HS7.out.new hb hB hg); clear hb hB hg HS7; clear r0a r0b r0c)
            | (have hq := HS8; clear hq; (with_reducible refine atStore ?_); refine wpList_store_at rfl 49 _ _ rfl (HS8.out.at_ 4 rfl) (wiV x) rfl rfl (by kernel_rfl) (Nat.le_of_ble_eq_true rfl) (by kernel_rfl) ?_; intro W9 hB hP; have HS9 := Lib.hid (HS8.out.put 4 rfl (new := (wiA x)) hB hP); clear hB hP HS8; obtain ⟨r0a, r0b, r0c⟩ := HS9.out.rules 0 rfl)
            | (have hq := HS9; clear hq; (with_reducible refine atLoad ?_); refine wpList_load_at rfl 49 _ rfl (HS9.out.at_ 4 rfl) 7 (wiV x) rfl _ Tryd.underlying49 rfl (by kernel_rfl) (Nat.le_of_ble_eq_true rfl) rfl ?_))
          refine (dplan_y g4 up now _ _ _ sp (F k).l (n + k) x y _ (HBO.out.1.f.at_ (HS9.out.openAt 1 rfl) 0 1 rfl rfl) HBO.out.1 HXO.out HR.out.n1 HPY.out).mono ?_
          rintro e W10 ⟨rfl, hb⟩
          have HS10 := Lib.hid (HS9.out.after hb)
          clear hb HS9 r0a r0b r0c
          go_wp2_with (first
            | (have hq := HS10; clear hq; (with_reducible refine atAlloc ?_); refine wpList_alloc_b rfl (some 12) rfl 60 (#[.int .i64 0, .int .i64 0, .int .u64 0, .int .u64 0, .int .u64 0, .int .u64 0]) (by kernel_rfl) ?_; intro g11 W11 hb hB hg; have HS11 := Lib.hid (HS10.out.new hb hB hg); clear hb hB hg HS10)
            | (have hq := HS11; clear hq; (with_reducible refine atStore ?_); refine wpList_store_at rfl 60 _ _ rfl (HS11.out.at_ 5 rfl) (plV y) rfl rfl (by kernel_rfl) (Nat.le_of_ble_eq_true rfl) (by kernel_rfl) ?_; intro W12 hB hP; have HS12 := Lib.hid (HS11.out.put 5 rfl (new := (plA y)) hB hP); clear hB hP HS11; obtain ⟨r0a, r0b, r0c⟩ := HS12.out.rules 0 rfl)
            | (have hq := HS12; clear hq; (with_reducible refine atLoad ?_); refine wpList_load_at rfl 49 _ rfl (HS12.out.at_ 4 rfl) 7 (wiV x) rfl _ Tryd.underlying49 rfl (by kernel_rfl) (Nat.le_of_ble_eq_true rfl) rfl ?_))
          refine (dnow_y g4 up now _ _ _ sp (F k).l (n + k) x y _ (HBO.out.1.f.at_ (HS12.out.openAt 1 rfl) 0 1 rfl rfl) HBO.out.1 HXO.out HR.out.n1 HPY.out HAT.out).mono ?_
          rintro e W13 ⟨rfl, hb⟩
          have HS13 := Lib.hid (HS12.out.after hb)
          clear hb HS12 r0a r0b r0c
          go_wp2_with (first
            | (have hq := HS13; clear hq; (with_reducible refine atAlloc ?_); refine wpList_alloc_b rfl (some 14) rfl 60 (#[.int .i64 0, .int .i64 0, .int .u64 0, .int .u64 0, .int .u64 0, .int .u64 0]) (by kernel_rfl) ?_; intro g14 W14 hb hB hg; have HS14 := Lib.hid (HS13.out.new hb hB hg); clear hb hB hg HS13)
            | (have hq := HS14; clear hq; (with_reducible refine atStore ?_); refine wpList_store_at rfl 60 _ _ rfl (HS14.out.at_ 6 rfl) (plV y) rfl rfl (by kernel_rfl) (Nat.le_of_ble_eq_true rfl) (by kernel_rfl) ?_; intro W15 hB hP; have HS15 := Lib.hid (HS14.out.put 6 rfl (new := (plA y)) hB hP); clear hB hP HS14; obtain ⟨r5a, r5b, r5c⟩ := HS15.out.rules 5 rfl; obtain ⟨r4a, r4b, r4c⟩ := HS15.out.rules 4 rfl)
            | (have hq := HS15; clear hq; (with_reducible refine atLoad ?_); refine wpList_load_at rfl 24 _ rfl (HS15.out.at_ 5 rfl) 4 (.agg #[.int .u64 (wn y.nodes 0 : Nat), .int .u64 (wn y.nodes 1 : Nat), .int .u64 (wn y.nodes 2 : Nat), .int .u64 (wn y.nodes 3 : Nat)]) rfl _ Tryd.underlying24 rfl (by kernel_rfl) (Nat.le_of_ble_eq_true rfl) rfl ?_))
          refine (dtake_m g4 up now _ _ sp (F k).l (n + k) y.nodes y.at_ (y.at_ + x.long) _ (HS15.out.ok 1 _ rfl) HBO.out.1 HKD.out.1 HKD.out.2.2.1).mono ?_
          rintro e W16 ⟨rfl, A16, c16, hM⟩
          have HS16 := Lib.hid (HS15.out.call 1 rfl hM)
          clear hM HS15 r5a r5b r5c r4a r4b r4c
          go_wp2_with (first
            | (have hq := HS16; clear hq; (with_reducible refine atLoad ?_); refine wpList_load_at rfl 60 _ rfl (HS16.out.at_ 5 rfl) 6 (plV y) rfl _ Tryd.underlying60 rfl (by kernel_rfl) (Nat.le_of_ble_eq_true rfl) rfl ?_)
            | (have hq := HS16; clear hq; (with_reducible refine atBuild ?_); refine wpList_build_b rfl (some 69) rfl 60 1 (#[.int .i64 y.id, .int .i64 y.at_, .int .u64 (wn y.nodes 0 : Nat), .int .u64 (wn y.nodes 1 : Nat), .int .u64 (wn y.nodes 2 : Nat), .int .u64 (wn y.nodes 3 : Nat)]) (by kernel_rfl) ?_; intro g17 W17 hb hB hg; have HS17 := Lib.hid (HS16.out.new hb hB hg); clear hb hB hg HS16)
            | (have hq := HS17; clear hq; refine append_rd HS17.out 2 rfl _ _ 40 60 6 48 plL (.agg #[.int .i64 0, .int .i64 0, .int .u64 0, .int .u64 0, .int .u64 0, .int .u64 0]) rfl Tryd.underlying40 (by kernel_rfl) rfl (by decide) As cs (F k).s ns HLN.out (some ⟨g17, 0, none⟩) 1 1 [y] ((F k).s ++ [y]) (ns + 1) rfl HLN1.out rfl rfl rfl (rdpl_one (HS17.out.at_ 7 rfl)) (fun _ => rfl) (fun _ => rfl) (by have := HLB.out; omega) (by have := HLB.out; simp only [maxLen]; omega) ?_; intro A18 c18 W18 hM; have HS18 := Lib.hid hM; clear hM HS17))
          have HKs := Lib.hid (show ((F k).keep up now x y).s = (F k).s ++ [y] by rw [keep_s, if_pos HAT.out])
          have HKp := Lib.hid (show ((F k).keep up now x y).p = (F k).p by rw [keep_p, if_pos HAT.out])
          go_wp2_with fail
          refine ⟨⟨k + 1, sp ++ snL y.nodes y.at_ (y.at_ + x.long), A16, c16, A18, ns + 1, c18, Ap, np, cp, by omega, by go_num, rfl, rfl, Lib.hid ?_, Lib.hid ?_, Lib.hid ?_, ?_⟩, by simp [intOf]; omega⟩
          · rw [HSTP.out, HKs.out, HKp.out]; exact ⟨HLN1.out, HLS.out.2⟩
          · rw [HSTP.out, keep_stop]; exact HSP.out
          · rw [HSTP.out]; exact ⟨HKD.out.2.1, by have := HKD.out.2.2.2; have := HBO.out.2; omega⟩
          · rw [HSTP.out, HKs.out, HKp.out]; exact Lib.hid (Ms.cut (l := [(.blk g1 28 (scA now up A n c (some ad) m d)), dpP g4 up now A16 c16 (sp ++ snL y.nodes y.at_ (y.at_ + x.long)), rowPlD A18 c18 ((F k).s ++ [y]), rowPlD Ap cp (F k).p]) (k := [(.blk g8 49 (wiA x)), (.blk g11 60 (plA y)), (.blk g14 60 (plA y)), (.blk g17 60 #[.int .i64 y.id, .int .i64 y.at_, .int .u64 (wn y.nodes 0 : Nat), .int .u64 (wn y.nodes 1 : Nat), .int .u64 (wn y.nodes 2 : Nat), .int .u64 (wn y.nodes 3 : Nat)])]) HS18.out)
        · have HAT := Lib.hid hat
          clear hat
          by_cases hm : mode = 0
          · subst hm
            have HSTP := Lib.hid (HST2.out.trans (step_end HSP.out HPY.out HAT.out))
            obtain ⟨r0a, r0b, r0c⟩ := HS7.out.rules 0 rfl
            go_wp2_with (first
              | (have hq := HC; clear hq; refine wpList_load_ad (by kernel_rfl) 49 _ rfl (ad.add (k * 7)) ((wiL x)) HC.out rfl _ (wiV x) rfl Tryd.underlying49 rfl (by kernel_rfl) ?_; clear HC)
              | (have hq := HS7; clear hq; (with_reducible refine atAlloc ?_); refine wpList_alloc_b rfl (some 11) rfl 49 (#[.int .i64 0, .int .i64 0, .int .i64 0, .int .u64 0, .int .u64 0, .int .u64 0, .int .u64 0]) (by kernel_rfl) ?_; intro g8 W8 hb hB hg; have HS8 := Lib.hid (HS7.out.new hb hB hg); clear hb hB hg HS7; clear r0a r0b r0c)
              | (have hq := HS8; clear hq; (with_reducible refine atStore ?_); refine wpList_store_at rfl 49 _ _ rfl (HS8.out.at_ 4 rfl) (wiV x) rfl rfl (by kernel_rfl) (Nat.le_of_ble_eq_true rfl) (by kernel_rfl) ?_; intro W9 hB hP; have HS9 := Lib.hid (HS8.out.put 4 rfl (new := (wiA x)) hB hP); clear hB hP HS8; obtain ⟨r0a, r0b, r0c⟩ := HS9.out.rules 0 rfl)
              | (have hq := HS9; clear hq; (with_reducible refine atLoad ?_); refine wpList_load_at rfl 49 _ rfl (HS9.out.at_ 4 rfl) 7 (wiV x) rfl _ Tryd.underlying49 rfl (by kernel_rfl) (Nat.le_of_ble_eq_true rfl) rfl ?_))
            refine (dplan_y g4 up now _ _ _ sp (F k).l (n + k) x y _ (HBO.out.1.f.at_ (HS9.out.openAt 1 rfl) 0 1 rfl rfl) HBO.out.1 HXO.out HR.out.n1 HPY.out).mono ?_
            rintro e W10 ⟨rfl, hb⟩
            have HS10 := Lib.hid (HS9.out.after hb)
            clear hb HS9 r0a r0b r0c
            go_wp2_with (first
              | (have hq := HS10; clear hq; (with_reducible refine atAlloc ?_); refine wpList_alloc_b rfl (some 12) rfl 60 (#[.int .i64 0, .int .i64 0, .int .u64 0, .int .u64 0, .int .u64 0, .int .u64 0]) (by kernel_rfl) ?_; intro g11 W11 hb hB hg; have HS11 := Lib.hid (HS10.out.new hb hB hg); clear hb hB hg HS10)
              | (have hq := HS11; clear hq; (with_reducible refine atStore ?_); refine wpList_store_at rfl 60 _ _ rfl (HS11.out.at_ 5 rfl) (plV y) rfl rfl (by kernel_rfl) (Nat.le_of_ble_eq_true rfl) (by kernel_rfl) ?_; intro W12 hB hP; have HS12 := Lib.hid (HS11.out.put 5 rfl (new := (plA y)) hB hP); clear hB hP HS11; obtain ⟨r0a, r0b, r0c⟩ := HS12.out.rules 0 rfl)
              | (have hq := HS12; clear hq; (with_reducible refine atLoad ?_); refine wpList_load_at rfl 49 _ rfl (HS12.out.at_ 4 rfl) 7 (wiV x) rfl _ Tryd.underlying49 rfl (by kernel_rfl) (Nat.le_of_ble_eq_true rfl) rfl ?_))
            refine (dnow_l g4 up now _ _ _ sp (F k).l (n + k) x y _ (HBO.out.1.f.at_ (HS12.out.openAt 1 rfl) 0 1 rfl rfl) HBO.out.1 HXO.out HR.out.n1 HPY.out HAT.out).mono ?_
            rintro e W13 ⟨rfl, hb⟩
            have HS13 := Lib.hid (HS12.out.after hb)
            clear hb HS12 r0a r0b r0c
            go_wp2_with (first
              | (have hq := HS13; clear hq; (with_reducible refine atAlloc ?_); refine wpList_alloc_b rfl (some 14) rfl 60 (#[.int .i64 0, .int .i64 0, .int .u64 0, .int .u64 0, .int .u64 0, .int .u64 0]) (by kernel_rfl) ?_; intro g14 W14 hb hB hg; have HS14 := Lib.hid (HS13.out.new hb hB hg); clear hb hB hg HS13)
              | (have hq := HS14; clear hq; (with_reducible refine atStore ?_); refine wpList_store_at rfl 60 _ _ rfl (HS14.out.at_ 6 rfl) (plV y) rfl rfl (by kernel_rfl) (Nat.le_of_ble_eq_true rfl) (by kernel_rfl) ?_; intro W15 hB hP; have HS15 := Lib.hid (HS14.out.put 6 rfl (new := (plA y)) hB hP); clear hB hP HS14))
            go_wp2_with fail
            go_ret3
            have HE := HWK.out.stop (k + 1) (by rw [HSTP.out])
            rw [HSTP.out] at HE
            have hp0 : σ.p = [] := by rw [HSG.out]; exact none_p up now ws _ rfl
            have hs0 : σ.s = (F k).s := by rw [HSG.out, ← HE]
            refine ⟨As, ns, cs, none, 0, 0, rfl, ⟨by rw [hs0]; exact HLS.out.1, by rw [hp0]; rfl, by have := HLE.out k; have := HLS.out; omega, by omega⟩, ?_⟩
            rw [hp0, hs0]
            exact ((HS15.out.nilS 60 6 plL).selL [2, 7] _ rfl (by decide)).all
          · have HM0 := Lib.hid hm
            have hmb : (mode == 0) = false := beq_false_of_ne hm
            clear hm
            by_cases hm2 : mode = 2
            · have HK := Lib.hid (show keeps mode (F k).p = true by unfold keeps; rw [if_neg (by omega)])
              have hm2b : (mode == 2) = true := beq_iff_eq.2 hm2
              clear hm2
              have HSTP := Lib.hid (HST2.out.trans (step_keep HSP.out HPY.out HAT.out HM0.out HK.out))
              have HLN := Lib.hid HLS.out.2
              have HLN1 := Lib.hid (show ((F k).p ++ [y]).length = np + 1 by rw [List.length_append, HLN.out]; rfl)
              have HLB := Lib.hid HLE2.out.2
              obtain ⟨r0a, r0b, r0c⟩ := HS7.out.rules 0 rfl
              go_wp2_with (first
                | (have hq := HC; clear hq; refine wpList_load_ad (by kernel_rfl) 49 _ rfl (ad.add (k * 7)) ((wiL x)) HC.out rfl _ (wiV x) rfl Tryd.underlying49 rfl (by kernel_rfl) ?_; clear HC)
                | (have hq := HS7; clear hq; (with_reducible refine atAlloc ?_); refine wpList_alloc_b rfl (some 11) rfl 49 (#[.int .i64 0, .int .i64 0, .int .i64 0, .int .u64 0, .int .u64 0, .int .u64 0, .int .u64 0]) (by kernel_rfl) ?_; intro g8 W8 hb hB hg; have HS8 := Lib.hid (HS7.out.new hb hB hg); clear hb hB hg HS7; clear r0a r0b r0c)
                | (have hq := HS8; clear hq; (with_reducible refine atStore ?_); refine wpList_store_at rfl 49 _ _ rfl (HS8.out.at_ 4 rfl) (wiV x) rfl rfl (by kernel_rfl) (Nat.le_of_ble_eq_true rfl) (by kernel_rfl) ?_; intro W9 hB hP; have HS9 := Lib.hid (HS8.out.put 4 rfl (new := (wiA x)) hB hP); clear hB hP HS8; obtain ⟨r0a, r0b, r0c⟩ := HS9.out.rules 0 rfl)
                | (have hq := HS9; clear hq; (with_reducible refine atLoad ?_); refine wpList_load_at rfl 49 _ rfl (HS9.out.at_ 4 rfl) 7 (wiV x) rfl _ Tryd.underlying49 rfl (by kernel_rfl) (Nat.le_of_ble_eq_true rfl) rfl ?_))
              refine (dplan_y g4 up now _ _ _ sp (F k).l (n + k) x y _ (HBO.out.1.f.at_ (HS9.out.openAt 1 rfl) 0 1 rfl rfl) HBO.out.1 HXO.out HR.out.n1 HPY.out).mono ?_
              rintro e W10 ⟨rfl, hb⟩
              have HS10 := Lib.hid (HS9.out.after hb)
              clear hb HS9 r0a r0b r0c
              go_wp2_with (first
                | (have hq := HS10; clear hq; (with_reducible refine atAlloc ?_); refine wpList_alloc_b rfl (some 12) rfl 60 (#[.int .i64 0, .int .i64 0, .int .u64 0, .int .u64 0, .int .u64 0, .int .u64 0]) (by kernel_rfl) ?_; intro g11 W11 hb hB hg; have HS11 := Lib.hid (HS10.out.new hb hB hg); clear hb hB hg HS10)
                | (have hq := HS11; clear hq; (with_reducible refine atStore ?_); refine wpList_store_at rfl 60 _ _ rfl (HS11.out.at_ 5 rfl) (plV y) rfl rfl (by kernel_rfl) (Nat.le_of_ble_eq_true rfl) (by kernel_rfl) ?_; intro W12 hB hP; have HS12 := Lib.hid (HS11.out.put 5 rfl (new := (plA y)) hB hP); clear hB hP HS11; obtain ⟨r0a, r0b, r0c⟩ := HS12.out.rules 0 rfl)
                | (have hq := HS12; clear hq; (with_reducible refine atLoad ?_); refine wpList_load_at rfl 49 _ rfl (HS12.out.at_ 4 rfl) 7 (wiV x) rfl _ Tryd.underlying49 rfl (by kernel_rfl) (Nat.le_of_ble_eq_true rfl) rfl ?_))
              refine (dnow_l g4 up now _ _ _ sp (F k).l (n + k) x y _ (HBO.out.1.f.at_ (HS12.out.openAt 1 rfl) 0 1 rfl rfl) HBO.out.1 HXO.out HR.out.n1 HPY.out HAT.out).mono ?_
              rintro e W13 ⟨rfl, hb⟩
              have HS13 := Lib.hid (HS12.out.after hb)
              clear hb HS12 r0a r0b r0c
              go_wp2_with (first
                | (have hq := HS13; clear hq; (with_reducible refine atAlloc ?_); refine wpList_alloc_b rfl (some 14) rfl 60 (#[.int .i64 0, .int .i64 0, .int .u64 0, .int .u64 0, .int .u64 0, .int .u64 0]) (by kernel_rfl) ?_; intro g14 W14 hb hB hg; have HS14 := Lib.hid (HS13.out.new hb hB hg); clear hb hB hg HS13)
                | (have hq := HS14; clear hq; (with_reducible refine atStore ?_); refine wpList_store_at rfl 60 _ _ rfl (HS14.out.at_ 6 rfl) (plV y) rfl rfl (by kernel_rfl) (Nat.le_of_ble_eq_true rfl) (by kernel_rfl) ?_; intro W15 hB hP; have HS15 := Lib.hid (HS14.out.put 6 rfl (new := (plA y)) hB hP); clear hB hP HS14; obtain ⟨r5a, r5b, r5c⟩ := HS15.out.rules 5 rfl; obtain ⟨r4a, r4b, r4c⟩ := HS15.out.rules 4 rfl)
                | (have hq := HS15; clear hq; (with_reducible refine atLoad ?_); refine wpList_load_at rfl 24 _ rfl (HS15.out.at_ 5 rfl) 4 (.agg #[.int .u64 (wn y.nodes 0 : Nat), .int .u64 (wn y.nodes 1 : Nat), .int .u64 (wn y.nodes 2 : Nat), .int .u64 (wn y.nodes 3 : Nat)]) rfl _ Tryd.underlying24 rfl (by kernel_rfl) (Nat.le_of_ble_eq_true rfl) rfl ?_))
              refine (dtake_m g4 up now _ _ sp (F k).l (n + k) y.nodes y.at_ (y.at_ + x.long) _ (HS15.out.ok 1 _ rfl) HBO.out.1 HKD.out.1 HKD.out.2.2.1).mono ?_
              rintro e W16 ⟨rfl, A16, c16, hM⟩
              have HS16 := Lib.hid (HS15.out.call 1 rfl hM)
              clear hM HS15 r5a r5b r5c r4a r4b r4c
              go_wp2_with (first
                | (have hq := HS16; clear hq; (with_reducible refine atLoad ?_); refine wpList_load_at rfl 60 _ rfl (HS16.out.at_ 5 rfl) 6 (plV y) rfl _ Tryd.underlying60 rfl (by kernel_rfl) (Nat.le_of_ble_eq_true rfl) rfl ?_)
                | (have hq := HS16; clear hq; (with_reducible refine atBuild ?_); refine wpList_build_b rfl (some 98) rfl 60 1 (#[.int .i64 y.id, .int .i64 y.at_, .int .u64 (wn y.nodes 0 : Nat), .int .u64 (wn y.nodes 1 : Nat), .int .u64 (wn y.nodes 2 : Nat), .int .u64 (wn y.nodes 3 : Nat)]) (by kernel_rfl) ?_; intro g17 W17 hb hB hg; have HS17 := Lib.hid (HS16.out.new hb hB hg); clear hb hB hg HS16)
                | (have hq := HS17; clear hq; refine append_rd HS17.out 3 rfl _ _ 40 60 6 48 plL (.agg #[.int .i64 0, .int .i64 0, .int .u64 0, .int .u64 0, .int .u64 0, .int .u64 0]) rfl Tryd.underlying40 (by kernel_rfl) rfl (by decide) Ap cp (F k).p np HLN.out (some ⟨g17, 0, none⟩) 1 1 [y] ((F k).p ++ [y]) (np + 1) rfl HLN1.out rfl rfl rfl (rdpl_one (HS17.out.at_ 7 rfl)) (fun _ => rfl) (fun _ => rfl) (by have := HLB.out; omega) (by have := HLB.out; simp only [maxLen]; omega) ?_; intro A18 c18 W18 hM; have HS18 := Lib.hid hM; clear hM HS17))
              have HKs := Lib.hid (show ((F k).keep up now x y).s = (F k).s by rw [keep_s, if_neg HAT.out])
              have HKp := Lib.hid (show ((F k).keep up now x y).p = (F k).p ++ [y] by rw [keep_p, if_neg HAT.out])
              go_wp2_with fail
              refine ⟨⟨k + 1, sp ++ snL y.nodes y.at_ (y.at_ + x.long), A16, c16, As, ns, cs, A18, np + 1, c18, by omega, by go_num, rfl, rfl, Lib.hid ?_, Lib.hid ?_, Lib.hid ?_, ?_⟩, by simp [intOf]; omega⟩
              · rw [HSTP.out, HKs.out, HKp.out]; exact ⟨HLS.out.1, HLN1.out⟩
              · rw [HSTP.out, keep_stop]; exact HSP.out
              · rw [HSTP.out]; exact ⟨HKD.out.2.1, by have := HKD.out.2.2.2; have := HBO.out.2; omega⟩
              · rw [HSTP.out, HKs.out, HKp.out]; exact Lib.hid (Ms.cut (l := [(.blk g1 28 (scA now up A n c (some ad) m d)), dpP g4 up now A16 c16 (sp ++ snL y.nodes y.at_ (y.at_ + x.long)), rowPlD As cs (F k).s, rowPlD A18 c18 ((F k).p ++ [y])]) (k := [(.blk g8 49 (wiA x)), (.blk g11 60 (plA y)), (.blk g14 60 (plA y)), (.blk g17 60 #[.int .i64 y.id, .int .i64 y.at_, .int .u64 (wn y.nodes 0 : Nat), .int .u64 (wn y.nodes 1 : Nat), .int .u64 (wn y.nodes 2 : Nat), .int .u64 (wn y.nodes 3 : Nat)])]) HS18.out)
            · have hm1 : mode = 1 := by have := HM.out; have := HM0.out; omega
              have HM1 := Lib.hid hm1
              have hm2b : (mode == 2) = false := beq_false_of_ne hm2
              clear hm2 hm1
              by_cases hp : np = 0
              · have HK := Lib.hid (show keeps mode (F k).p = true by unfold keeps; rw [if_pos HM1.out, List.isEmpty_iff]; exact List.eq_nil_of_length_eq_zero (HLS.out.2.trans hp))
                have hpb : ((np : Int) == 0) = true := beq_iff_eq.2 (by omega)
                clear hp
                have HSTP := Lib.hid (HST2.out.trans (step_keep HSP.out HPY.out HAT.out HM0.out HK.out))
                have HLN := Lib.hid HLS.out.2
                have HLN1 := Lib.hid (show ((F k).p ++ [y]).length = np + 1 by rw [List.length_append, HLN.out]; rfl)
                have HLB := Lib.hid HLE2.out.2
                obtain ⟨r0a, r0b, r0c⟩ := HS7.out.rules 0 rfl
                go_wp2_with (first
                  | (have hq := HC; clear hq; refine wpList_load_ad (by kernel_rfl) 49 _ rfl (ad.add (k * 7)) ((wiL x)) HC.out rfl _ (wiV x) rfl Tryd.underlying49 rfl (by kernel_rfl) ?_; clear HC)
                  | (have hq := HS7; clear hq; (with_reducible refine atAlloc ?_); refine wpList_alloc_b rfl (some 11) rfl 49 (#[.int .i64 0, .int .i64 0, .int .i64 0, .int .u64 0, .int .u64 0, .int .u64 0, .int .u64 0]) (by kernel_rfl) ?_; intro g8 W8 hb hB hg; have HS8 := Lib.hid (HS7.out.new hb hB hg); clear hb hB hg HS7; clear r0a r0b r0c)
                  | (have hq := HS8; clear hq; (with_reducible refine atStore ?_); refine wpList_store_at rfl 49 _ _ rfl (HS8.out.at_ 4 rfl) (wiV x) rfl rfl (by kernel_rfl) (Nat.le_of_ble_eq_true rfl) (by kernel_rfl) ?_; intro W9 hB hP; have HS9 := Lib.hid (HS8.out.put 4 rfl (new := (wiA x)) hB hP); clear hB hP HS8; obtain ⟨r0a, r0b, r0c⟩ := HS9.out.rules 0 rfl)
                  | (have hq := HS9; clear hq; (with_reducible refine atLoad ?_); refine wpList_load_at rfl 49 _ rfl (HS9.out.at_ 4 rfl) 7 (wiV x) rfl _ Tryd.underlying49 rfl (by kernel_rfl) (Nat.le_of_ble_eq_true rfl) rfl ?_))
                refine (dplan_y g4 up now _ _ _ sp (F k).l (n + k) x y _ (HBO.out.1.f.at_ (HS9.out.openAt 1 rfl) 0 1 rfl rfl) HBO.out.1 HXO.out HR.out.n1 HPY.out).mono ?_
                rintro e W10 ⟨rfl, hb⟩
                have HS10 := Lib.hid (HS9.out.after hb)
                clear hb HS9 r0a r0b r0c
                go_wp2_with (first
                  | (have hq := HS10; clear hq; (with_reducible refine atAlloc ?_); refine wpList_alloc_b rfl (some 12) rfl 60 (#[.int .i64 0, .int .i64 0, .int .u64 0, .int .u64 0, .int .u64 0, .int .u64 0]) (by kernel_rfl) ?_; intro g11 W11 hb hB hg; have HS11 := Lib.hid (HS10.out.new hb hB hg); clear hb hB hg HS10)
                  | (have hq := HS11; clear hq; (with_reducible refine atStore ?_); refine wpList_store_at rfl 60 _ _ rfl (HS11.out.at_ 5 rfl) (plV y) rfl rfl (by kernel_rfl) (Nat.le_of_ble_eq_true rfl) (by kernel_rfl) ?_; intro W12 hB hP; have HS12 := Lib.hid (HS11.out.put 5 rfl (new := (plA y)) hB hP); clear hB hP HS11; obtain ⟨r0a, r0b, r0c⟩ := HS12.out.rules 0 rfl)
                  | (have hq := HS12; clear hq; (with_reducible refine atLoad ?_); refine wpList_load_at rfl 49 _ rfl (HS12.out.at_ 4 rfl) 7 (wiV x) rfl _ Tryd.underlying49 rfl (by kernel_rfl) (Nat.le_of_ble_eq_true rfl) rfl ?_))
                refine (dnow_l g4 up now _ _ _ sp (F k).l (n + k) x y _ (HBO.out.1.f.at_ (HS12.out.openAt 1 rfl) 0 1 rfl rfl) HBO.out.1 HXO.out HR.out.n1 HPY.out HAT.out).mono ?_
                rintro e W13 ⟨rfl, hb⟩
                have HS13 := Lib.hid (HS12.out.after hb)
                clear hb HS12 r0a r0b r0c
                go_wp2_with (first
                  | (have hq := HS13; clear hq; (with_reducible refine atAlloc ?_); refine wpList_alloc_b rfl (some 14) rfl 60 (#[.int .i64 0, .int .i64 0, .int .u64 0, .int .u64 0, .int .u64 0, .int .u64 0]) (by kernel_rfl) ?_; intro g14 W14 hb hB hg; have HS14 := Lib.hid (HS13.out.new hb hB hg); clear hb hB hg HS13)
                  | (have hq := HS14; clear hq; (with_reducible refine atStore ?_); refine wpList_store_at rfl 60 _ _ rfl (HS14.out.at_ 6 rfl) (plV y) rfl rfl (by kernel_rfl) (Nat.le_of_ble_eq_true rfl) (by kernel_rfl) ?_; intro W15 hB hP; have HS15 := Lib.hid (HS14.out.put 6 rfl (new := (plA y)) hB hP); clear hB hP HS14; obtain ⟨r5a, r5b, r5c⟩ := HS15.out.rules 5 rfl; obtain ⟨r4a, r4b, r4c⟩ := HS15.out.rules 4 rfl)
                  | (have hq := HS15; clear hq; (with_reducible refine atLoad ?_); refine wpList_load_at rfl 24 _ rfl (HS15.out.at_ 5 rfl) 4 (.agg #[.int .u64 (wn y.nodes 0 : Nat), .int .u64 (wn y.nodes 1 : Nat), .int .u64 (wn y.nodes 2 : Nat), .int .u64 (wn y.nodes 3 : Nat)]) rfl _ Tryd.underlying24 rfl (by kernel_rfl) (Nat.le_of_ble_eq_true rfl) rfl ?_))
                refine (dtake_m g4 up now _ _ sp (F k).l (n + k) y.nodes y.at_ (y.at_ + x.long) _ (HS15.out.ok 1 _ rfl) HBO.out.1 HKD.out.1 HKD.out.2.2.1).mono ?_
                rintro e W16 ⟨rfl, A16, c16, hM⟩
                have HS16 := Lib.hid (HS15.out.call 1 rfl hM)
                clear hM HS15 r5a r5b r5c r4a r4b r4c
                go_wp2_with (first
                  | (have hq := HS16; clear hq; (with_reducible refine atLoad ?_); refine wpList_load_at rfl 60 _ rfl (HS16.out.at_ 5 rfl) 6 (plV y) rfl _ Tryd.underlying60 rfl (by kernel_rfl) (Nat.le_of_ble_eq_true rfl) rfl ?_)
                  | (have hq := HS16; clear hq; (with_reducible refine atBuild ?_); refine wpList_build_b rfl (some 98) rfl 60 1 (#[.int .i64 y.id, .int .i64 y.at_, .int .u64 (wn y.nodes 0 : Nat), .int .u64 (wn y.nodes 1 : Nat), .int .u64 (wn y.nodes 2 : Nat), .int .u64 (wn y.nodes 3 : Nat)]) (by kernel_rfl) ?_; intro g17 W17 hb hB hg; have HS17 := Lib.hid (HS16.out.new hb hB hg); clear hb hB hg HS16)
                  | (have hq := HS17; clear hq; refine append_rd HS17.out 3 rfl _ _ 40 60 6 48 plL (.agg #[.int .i64 0, .int .i64 0, .int .u64 0, .int .u64 0, .int .u64 0, .int .u64 0]) rfl Tryd.underlying40 (by kernel_rfl) rfl (by decide) Ap cp (F k).p np HLN.out (some ⟨g17, 0, none⟩) 1 1 [y] ((F k).p ++ [y]) (np + 1) rfl HLN1.out rfl rfl rfl (rdpl_one (HS17.out.at_ 7 rfl)) (fun _ => rfl) (fun _ => rfl) (by have := HLB.out; omega) (by have := HLB.out; simp only [maxLen]; omega) ?_; intro A18 c18 W18 hM; have HS18 := Lib.hid hM; clear hM HS17))
                have HKs := Lib.hid (show ((F k).keep up now x y).s = (F k).s by rw [keep_s, if_neg HAT.out])
                have HKp := Lib.hid (show ((F k).keep up now x y).p = (F k).p ++ [y] by rw [keep_p, if_neg HAT.out])
                go_wp2_with fail
                refine ⟨⟨k + 1, sp ++ snL y.nodes y.at_ (y.at_ + x.long), A16, c16, As, ns, cs, A18, np + 1, c18, by omega, by go_num, rfl, rfl, Lib.hid ?_, Lib.hid ?_, Lib.hid ?_, ?_⟩, by simp [intOf]; omega⟩
                · rw [HSTP.out, HKs.out, HKp.out]; exact ⟨HLS.out.1, HLN1.out⟩
                · rw [HSTP.out, keep_stop]; exact HSP.out
                · rw [HSTP.out]; exact ⟨HKD.out.2.1, by have := HKD.out.2.2.2; have := HBO.out.2; omega⟩
                · rw [HSTP.out, HKs.out, HKp.out]; exact Lib.hid (Ms.cut (l := [(.blk g1 28 (scA now up A n c (some ad) m d)), dpP g4 up now A16 c16 (sp ++ snL y.nodes y.at_ (y.at_ + x.long)), rowPlD As cs (F k).s, rowPlD A18 c18 ((F k).p ++ [y])]) (k := [(.blk g8 49 (wiA x)), (.blk g11 60 (plA y)), (.blk g14 60 (plA y)), (.blk g17 60 #[.int .i64 y.id, .int .i64 y.at_, .int .u64 (wn y.nodes 0 : Nat), .int .u64 (wn y.nodes 1 : Nat), .int .u64 (wn y.nodes 2 : Nat), .int .u64 (wn y.nodes 3 : Nat)])]) HS18.out)
              · have HK := Lib.hid (show keeps mode (F k).p = false by
                  unfold keeps
                  rw [if_pos HM1.out]
                  cases h9 : (F k).p
                  · have := HLS.out.2; rw [h9] at this; exact absurd this.symm hp
                  · rfl)
                have hpb : ((np : Int) == 0) = false := beq_false_of_ne (by omega)
                clear hp
                have HSTP := Lib.hid (HST2.out.trans (step_skip HSP.out HPY.out HAT.out HM0.out HK.out))
                obtain ⟨r0a, r0b, r0c⟩ := HS7.out.rules 0 rfl
                go_wp2_with (first
                  | (have hq := HC; clear hq; refine wpList_load_ad (by kernel_rfl) 49 _ rfl (ad.add (k * 7)) ((wiL x)) HC.out rfl _ (wiV x) rfl Tryd.underlying49 rfl (by kernel_rfl) ?_; clear HC)
                  | (have hq := HS7; clear hq; (with_reducible refine atAlloc ?_); refine wpList_alloc_b rfl (some 11) rfl 49 (#[.int .i64 0, .int .i64 0, .int .i64 0, .int .u64 0, .int .u64 0, .int .u64 0, .int .u64 0]) (by kernel_rfl) ?_; intro g8 W8 hb hB hg; have HS8 := Lib.hid (HS7.out.new hb hB hg); clear hb hB hg HS7; clear r0a r0b r0c)
                  | (have hq := HS8; clear hq; (with_reducible refine atStore ?_); refine wpList_store_at rfl 49 _ _ rfl (HS8.out.at_ 4 rfl) (wiV x) rfl rfl (by kernel_rfl) (Nat.le_of_ble_eq_true rfl) (by kernel_rfl) ?_; intro W9 hB hP; have HS9 := Lib.hid (HS8.out.put 4 rfl (new := (wiA x)) hB hP); clear hB hP HS8; obtain ⟨r0a, r0b, r0c⟩ := HS9.out.rules 0 rfl)
                  | (have hq := HS9; clear hq; (with_reducible refine atLoad ?_); refine wpList_load_at rfl 49 _ rfl (HS9.out.at_ 4 rfl) 7 (wiV x) rfl _ Tryd.underlying49 rfl (by kernel_rfl) (Nat.le_of_ble_eq_true rfl) rfl ?_))
                refine (dplan_y g4 up now _ _ _ sp (F k).l (n + k) x y _ (HBO.out.1.f.at_ (HS9.out.openAt 1 rfl) 0 1 rfl rfl) HBO.out.1 HXO.out HR.out.n1 HPY.out).mono ?_
                rintro e W10 ⟨rfl, hb⟩
                have HS10 := Lib.hid (HS9.out.after hb)
                clear hb HS9 r0a r0b r0c
                go_wp2_with (first
                  | (have hq := HS10; clear hq; (with_reducible refine atAlloc ?_); refine wpList_alloc_b rfl (some 12) rfl 60 (#[.int .i64 0, .int .i64 0, .int .u64 0, .int .u64 0, .int .u64 0, .int .u64 0]) (by kernel_rfl) ?_; intro g11 W11 hb hB hg; have HS11 := Lib.hid (HS10.out.new hb hB hg); clear hb hB hg HS10)
                  | (have hq := HS11; clear hq; (with_reducible refine atStore ?_); refine wpList_store_at rfl 60 _ _ rfl (HS11.out.at_ 5 rfl) (plV y) rfl rfl (by kernel_rfl) (Nat.le_of_ble_eq_true rfl) (by kernel_rfl) ?_; intro W12 hB hP; have HS12 := Lib.hid (HS11.out.put 5 rfl (new := (plA y)) hB hP); clear hB hP HS11; obtain ⟨r0a, r0b, r0c⟩ := HS12.out.rules 0 rfl)
                  | (have hq := HS12; clear hq; (with_reducible refine atLoad ?_); refine wpList_load_at rfl 49 _ rfl (HS12.out.at_ 4 rfl) 7 (wiV x) rfl _ Tryd.underlying49 rfl (by kernel_rfl) (Nat.le_of_ble_eq_true rfl) rfl ?_))
                refine (dnow_l g4 up now _ _ _ sp (F k).l (n + k) x y _ (HBO.out.1.f.at_ (HS12.out.openAt 1 rfl) 0 1 rfl rfl) HBO.out.1 HXO.out HR.out.n1 HPY.out HAT.out).mono ?_
                rintro e W13 ⟨rfl, hb⟩
                have HS13 := Lib.hid (HS12.out.after hb)
                clear hb HS12 r0a r0b r0c
                go_wp2_with (first
                  | (have hq := HS13; clear hq; (with_reducible refine atAlloc ?_); refine wpList_alloc_b rfl (some 14) rfl 60 (#[.int .i64 0, .int .i64 0, .int .u64 0, .int .u64 0, .int .u64 0, .int .u64 0]) (by kernel_rfl) ?_; intro g14 W14 hb hB hg; have HS14 := Lib.hid (HS13.out.new hb hB hg); clear hb hB hg HS13)
                  | (have hq := HS14; clear hq; (with_reducible refine atStore ?_); refine wpList_store_at rfl 60 _ _ rfl (HS14.out.at_ 6 rfl) (plV y) rfl rfl (by kernel_rfl) (Nat.le_of_ble_eq_true rfl) (by kernel_rfl) ?_; intro W15 hB hP; have HS15 := Lib.hid (HS14.out.put 6 rfl (new := (plA y)) hB hP); clear hB hP HS14))
                go_wp2_with fail
                refine ⟨⟨k + 1, sp, A2, c2, As, ns, cs, Ap, np, cp, by omega, by go_num, rfl, rfl, Lib.hid ?_, Lib.hid ?_, Lib.hid ?_, ?_⟩, by simp [intOf]; omega⟩
                · rw [HSTP.out]; exact HLS.out
                · rw [HSTP.out]; exact HSP.out
                · rw [HSTP.out]; exact ⟨⟨HBO.out.1.goo, HBO.out.1.holds, HBO.out.1.f, by have := HBO.out.1.few; omega⟩, by have := HBO.out.2; omega⟩
                · rw [HSTP.out]; exact Lib.hid (Ms.cut (l := [(.blk g1 28 (scA now up A n c (some ad) m d)), dpP g4 up now A2 c2 sp, rowPlD As cs (F k).s, rowPlD Ap cp (F k).p]) (k := [(.blk g8 49 (wiA x)), (.blk g11 60 (plA y)), (.blk g14 60 (plA y))]) HS15.out)
    · obtain rfl : k = m := by omega
      obtain ⟨r0a, r0b, r0c⟩ := HS7.out.rules 0 rfl
      go_wp2_with fail
      go_ret3
      have HE := HWK.out.last
      rw [HLw.out] at HE
      have hs0 : σ = F k := by rw [HSG.out, ← HE]
      refine ⟨As, ns, cs, Ap, np, cp, rfl, ⟨by rw [hs0]; exact HLS.out.1, by rw [hs0]; exact HLS.out.2, by have := HLE.out k; have := HLS.out; omega, by have := HLE.out k; have := HLS.out; omega⟩, ?_⟩
      rw [hs0]
      exact (HS7.out.selL [2, 3] _ rfl (by decide)).all
end Go.Proofs.YtkgphbjneaagoaaDoor

set_option linter.unusedVariables false
set_option maxRecDepth 100000
namespace Go.Proofs.YtkgphbjneaagoaaDoor
open Go.RowKit Go.Sort

theorem Ms.ansS2 {w W : World} {ex : Nat → Prop} {L : List Own} (h : Ms w ex L W) (i : Nat) {A B : Option Addr} {c d n : Nat} {S T : List Pl} (hi : L[i]? = some (.all [rowPlD A c S, rowPlD B d T])) (hn : S.length = n) : RdPl W A n S := hn ▸ rowS_read (fun _ => rfl) ((h.ok i _ hi).1 0 _ rfl)
theorem Ms.ansP2 {w W : World} {ex : Nat → Prop} {L : List Own} (h : Ms w ex L W) (i : Nat) {A B : Option Addr} {c d n : Nat} {S T : List Pl} (hi : L[i]? = some (.all [rowPlD A c S, rowPlD B d T])) (hn : T.length = n) : RdPl W B n T := hn ▸ rowS_read (fun _ => rfl) ((h.ok i _ hi).1 1 _ rfl)
set_option maxHeartbeats 8000000 in
theorem far_c (now : Int) (up : NS) (A : Option Addr) (n c : Nat) (B : Option Addr) (m d : Nat) (b : Bool) (w : World) (hb : decide (24 < cnt up ∨ 12 < n ∨ 12 < m) = b) :
    Calls Tryd.prog 9 #[scV now up A n c B m d] w fun e w' => e = .returned (.bool b) ∧ Below w.heap.size w w' := by
  have HC := Lib.hid (fun (w : World) => count_c up w)
  obtain ⟨q, hq⟩ : ∃ q, q = cnt up := ⟨_, rfl⟩
  rw [← hq] at hb HC
  clear hq
  by_cases h0 : 24 < q
  · have h0I : (24 : Int) < (q : Int) := by omega
    obtain rfl : true = b := by rw [← hb, decide_eq_true (.inl h0)]
    go_enter Tryd.func9, Tryd.ntmps9
    have HS0 := Lib.hid (Ms.nil w noB)
    go_wp2_with (first
      | (have hq := HS0; clear hq; (with_reducible refine atBox ?_); refine wpList_alloc_b rfl (some 1) rfl 28 ((scA now up A n c B m d)) (by kernel_rfl) ?_; intro g1 W1 hb hB hg; have HS1 := Lib.hid (HS0.out.new hb hB hg); clear hb hB hg HS0)
      | (have hq := HS1; clear hq; (with_reducible refine atLoad ?_); refine wpList_load_at rfl 24 _ rfl (HS1.out.at_ 0 rfl) 4 (.agg #[.int .u64 (wn up 0 : Nat), .int .u64 (wn up 1 : Nat), .int .u64 (wn up 2 : Nat), .int .u64 (wn up 3 : Nat)]) rfl _ Tryd.underlying24 rfl (by kernel_rfl) (Nat.le_of_ble_eq_true rfl) rfl ?_))
    refine (HC.out _).mono ?_
    rintro e W2 ⟨rfl, hb⟩
    have HS2 := Lib.hid (HS1.out.after hb)
    clear hb HS1
    go_wp2_with fail
    go_ret
    exact ⟨rfl, HS2.out.below⟩
  · have h0I : (q : Int) ≤ 24 := by omega
    by_cases h1 : 12 < n
    · have h1I : (12 : Int) < (n : Int) := by omega
      obtain rfl : true = b := by rw [← hb, decide_eq_true (.inr (.inl h1))]
      go_enter Tryd.func9, Tryd.ntmps9
      have HS0 := Lib.hid (Ms.nil w noB)
      go_wp2_with (first
        | (have hq := HS0; clear hq; (with_reducible refine atBox ?_); refine wpList_alloc_b rfl (some 1) rfl 28 ((scA now up A n c B m d)) (by kernel_rfl) ?_; intro g1 W1 hb hB hg; have HS1 := Lib.hid (HS0.out.new hb hB hg); clear hb hB hg HS0)
        | (have hq := HS1; clear hq; (with_reducible refine atLoad ?_); refine wpList_load_at rfl 24 _ rfl (HS1.out.at_ 0 rfl) 4 (.agg #[.int .u64 (wn up 0 : Nat), .int .u64 (wn up 1 : Nat), .int .u64 (wn up 2 : Nat), .int .u64 (wn up 3 : Nat)]) rfl _ Tryd.underlying24 rfl (by kernel_rfl) (Nat.le_of_ble_eq_true rfl) rfl ?_))
      refine (HC.out _).mono ?_
      rintro e W2 ⟨rfl, hb⟩
      have HS2 := Lib.hid (HS1.out.after hb)
      clear hb HS1
      obtain ⟨r0a, r0b, r0c⟩ := HS2.out.rules 0 rfl
      go_wp2_with fail
      go_ret
      exact ⟨rfl, HS2.out.below⟩
    · have h1I : (n : Int) ≤ 12 := by omega
      by_cases h2 : 12 < m
      · have h2I : (12 : Int) < (m : Int) := by omega
        obtain rfl : true = b := by rw [← hb, decide_eq_true (.inr (.inr h2))]
        go_enter Tryd.func9, Tryd.ntmps9
        have HS0 := Lib.hid (Ms.nil w noB)
        go_wp2_with (first
          | (have hq := HS0; clear hq; (with_reducible refine atBox ?_); refine wpList_alloc_b rfl (some 1) rfl 28 ((scA now up A n c B m d)) (by kernel_rfl) ?_; intro g1 W1 hb hB hg; have HS1 := Lib.hid (HS0.out.new hb hB hg); clear hb hB hg HS0)
          | (have hq := HS1; clear hq; (with_reducible refine atLoad ?_); refine wpList_load_at rfl 24 _ rfl (HS1.out.at_ 0 rfl) 4 (.agg #[.int .u64 (wn up 0 : Nat), .int .u64 (wn up 1 : Nat), .int .u64 (wn up 2 : Nat), .int .u64 (wn up 3 : Nat)]) rfl _ Tryd.underlying24 rfl (by kernel_rfl) (Nat.le_of_ble_eq_true rfl) rfl ?_))
        refine (HC.out _).mono ?_
        rintro e W2 ⟨rfl, hb⟩
        have HS2 := Lib.hid (HS1.out.after hb)
        clear hb HS1
        obtain ⟨r0a, r0b, r0c⟩ := HS2.out.rules 0 rfl
        go_wp2_with fail
        go_ret
        exact ⟨rfl, HS2.out.below⟩
      · have h2I : (m : Int) ≤ 12 := by omega
        obtain rfl : false = b := by rw [← hb, decide_eq_false (fun h => h.elim h0 (fun h => h.elim h1 h2))]
        go_enter Tryd.func9, Tryd.ntmps9
        have HS0 := Lib.hid (Ms.nil w noB)
        go_wp2_with (first
          | (have hq := HS0; clear hq; (with_reducible refine atBox ?_); refine wpList_alloc_b rfl (some 1) rfl 28 ((scA now up A n c B m d)) (by kernel_rfl) ?_; intro g1 W1 hb hB hg; have HS1 := Lib.hid (HS0.out.new hb hB hg); clear hb hB hg HS0)
          | (have hq := HS1; clear hq; (with_reducible refine atLoad ?_); refine wpList_load_at rfl 24 _ rfl (HS1.out.at_ 0 rfl) 4 (.agg #[.int .u64 (wn up 0 : Nat), .int .u64 (wn up 1 : Nat), .int .u64 (wn up 2 : Nat), .int .u64 (wn up 3 : Nat)]) rfl _ Tryd.underlying24 rfl (by kernel_rfl) (Nat.le_of_ble_eq_true rfl) rfl ?_))
        refine (HC.out _).mono ?_
        rintro e W2 ⟨rfl, hb⟩
        have HS2 := Lib.hid (HS1.out.after hb)
        clear hb HS1
        obtain ⟨r0a, r0b, r0c⟩ := HS2.out.rules 0 rfl
        go_wp2_with fail
        go_ret
        exact ⟨(show Ending.returned (.bool (decide (24 < (q : Int)) || decide (12 < (n : Int)) || decide (12 < (m : Int)))) = _ by rw [decide_eq_false (by omega), decide_eq_false (by omega), decide_eq_false (by omega)]; rfl), HS2.out.below⟩
set_option maxHeartbeats 32000000 in
theorem backPasses_w (now : Int) (up : NS) (A : Option Addr) (n c : Nat) (rs : List Ru) (B : Option Addr) (m d : Nat) (ws : List Wi) (mode : Int) (w : World) (hA : RdR w A n rs) (hB : RdW w B m ws) (hb : ∀ x ∈ ws, -9223372036854775808 ≤ x.id ∧ x.id ≤ 9223372036854775807) (hmd : m ≤ d ∧ d ≤ 9223372036854775807) (hT : TabW w) :
    Calls Tryd.prog 3 #[scV now up A n c B m d, .int .i64 mode] w fun e w' => e = .returned (.bool true) ∧ Below w.heap.size w w' := by
  have HA := Lib.hid hA
  have HB := Lib.hid hB
  have HI := Lib.hid hb
  have HTab := Lib.hid hT
  have HMD := Lib.hid hmd
  have HLw := Lib.hid (show ws.length = m from hB.1)
  have HLr := Lib.hid (show rs.length = n from hA.1)
  have hnI : (n : Int) ≤ 9223372036854775807 := by have := hA.2.1; omega
  have hmI : (m : Int) ≤ 9223372036854775807 := by have := hB.2.1; omega
  clear hA hB hb hT hmd
  go_enter Tryd.func3, Tryd.ntmps3
  have HS0 := Lib.hid (Ms.nil w noB)
  by_cases hf : 24 < cnt up ∨ 12 < n ∨ 12 < m
  · have HF := Lib.hid (decide_eq_true hf)
    clear hf
    go_wp2_with (first
      | (have hq := HS0; clear hq; (with_reducible refine atBox ?_); refine wpList_alloc_b rfl (some 2) rfl 28 ((scA now up A n c B m d)) (by kernel_rfl) ?_; intro g1 W1 hb hB hg; have HS1 := Lib.hid (HS0.out.new hb hB hg); clear hb hB hg HS0)
      | (have hq := HS1; clear hq; (with_reducible refine atLoad ?_); refine wpList_load_at rfl 28 _ rfl (HS1.out.at_ 0 rfl) 7 (scV now up A n c B m d) rfl _ Tryd.underlying28 rfl (by kernel_rfl) (Nat.le_of_ble_eq_true rfl) rfl ?_))
    refine (far_c now up A n c B m d true _ HF.out).mono ?_
    rintro e W2 ⟨rfl, hb⟩
    have HS2 := Lib.hid (HS1.out.after hb)
    clear hb HS1
    go_wp2_with fail
    refine (alive_c _ (HTab.out.after HS2.out.below)).mono ?_
    rintro e W3 ⟨rfl, hb⟩
    have HS3 := Lib.hid (HS2.out.after hb)
    clear hb HS2
    go_wp2_with fail
    go_ret
    exact ⟨rfl, HS3.out.below⟩
  · have HF := Lib.hid (decide_eq_false hf)
    have HCN := Lib.hid (show cnt up ≤ 24 ∧ n ≤ 12 ∧ m ≤ 12 by omega)
    clear hf
    have hn12 : (n : Int) ≤ 12 := by have := HCN.out; omega
    have hm12 : (m : Int) ≤ 12 := by have := HCN.out; omega
    by_cases hR : RightP now up rs ws ∧ 0 ≤ mode ∧ mode ≤ 2
    · have HR := Lib.hid hR.1
      have HM := Lib.hid hR.2
      clear hR
      obtain ⟨σ, hσ⟩ : ∃ σ, σ = passP mode up now rs ws := ⟨_, rfl⟩
      have HSG := Lib.hid hσ
      clear hσ
      go_wp2_with (first
        | (have hq := HS0; clear hq; (with_reducible refine atBox ?_); refine wpList_alloc_b rfl (some 2) rfl 28 ((scA now up A n c B m d)) (by kernel_rfl) ?_; intro g1 W1 hb hB hg; have HS1 := Lib.hid (HS0.out.new hb hB hg); clear hb hB hg HS0)
        | (have hq := HS1; clear hq; (with_reducible refine atLoad ?_); refine wpList_load_at rfl 28 _ rfl (HS1.out.at_ 0 rfl) 7 (scV now up A n c B m d) rfl _ Tryd.underlying28 rfl (by kernel_rfl) (Nat.le_of_ble_eq_true rfl) rfl ?_))
      refine (far_c now up A n c B m d false _ HF.out).mono ?_
      rintro e W2 ⟨rfl, hb⟩
      have HS2 := Lib.hid (HS1.out.after hb)
      clear hb HS1
      go_wp2_with (have hq := HS2; clear hq; (with_reducible refine atLoad ?_); refine wpList_load_at rfl 28 _ rfl (HS2.out.at_ 0 rfl) 7 (scV now up A n c B m d) rfl _ Tryd.underlying28 rfl (by kernel_rfl) (Nat.le_of_ble_eq_true rfl) rfl ?_)
      refine (theirs_c now up A n c rs B m d ws _ (HA.out.below HS2.out.below) (HB.out.below HS2.out.below) (by omega) (by omega)).mono ?_
      rintro e W3 ⟨A1, c1, B1, d1, rfl, hA1, hB1, hb⟩
      have HS3 := Lib.hid (HS2.out.after hb)
      clear hb HS2
      have HA1 := Lib.hid hA1
      have HB1 := Lib.hid hB1
      clear hA1 hB1
      go_wp2_with fail
      refine (pass_y now up A1 n c1 rs B1 m d1 ws mode σ _ HA1.out HB1.out HI.out HR.out HM.out.1 HM.out.2 (HTab.out.after HS3.out.below) HSG.out).mono ?_
      rintro e W4 ⟨S1, s1, e1, P1, p1, f1, rfl, hN, hM⟩
      have HS4 := Lib.hid (HS3.out.made hM)
      clear hM HS3
      have HN1 := Lib.hid hN
      clear hN
      go_wp2_with (have hq := HS4; clear hq; (with_reducible refine atLoad ?_); refine wpList_load_at rfl 28 _ rfl (HS4.out.at_ 0 rfl) 7 (scV now up A n c B m d) rfl _ Tryd.underlying28 rfl (by kernel_rfl) (Nat.le_of_ble_eq_true rfl) rfl ?_)
      refine (dpass_yes now up A n c rs B m d ws mode _ (HA.out.below HS4.out.below) (HB.out.below HS4.out.below) HR.out HM.out.1 HM.out.2 HCN.out.1 HCN.out.2.1 HCN.out.2.2 σ HSG.out).mono ?_
      rintro e W5 ⟨S2, s2, e2, P2, p2, f2, rfl, hN, hM⟩
      have HS5 := Lib.hid (HS4.out.made hM)
      clear hM HS4
      obtain rfl : s2 = s1 := by have := HN1.out; omega
      obtain rfl : p2 = p1 := by have := HN1.out; omega
      clear hN
      go_wp2_with fail
      have hs12 : s2 ≤ 12 := by have := HN1.out; have := HCN.out; omega
      have hp12 : p2 ≤ 12 := by have := HN1.out; have := HCN.out; omega
      go_wp2_with fail
      refine (ours_c S1 s2 e1 σ.s _ (HS5.out.ansS 1 rfl HN1.out.1) (by omega)).mono ?_
      rintro e W6 ⟨X, xX, rfl, hRX, hb⟩
      have HS6 := Lib.hid (HS5.out.after hb)
      clear hb HS5
      have HRX := Lib.hid hRX
      clear hRX
      go_wp2_with fail
      refine (same_c X s2 xX S2 e2 σ.s _ HRX.out (HS6.out.ansS2 2 rfl HN1.out.1)).mono ?_
      rintro e W7 ⟨rfl, hb⟩
      have HS7 := Lib.hid (HS6.out.after hb)
      clear hb HS6
      go_wp2_with fail
      refine (ours_c P1 p2 f1 σ.p _ (HS7.out.ansP 1 rfl HN1.out.2.1) (by omega)).mono ?_
      rintro e W8 ⟨Y, xY, rfl, hRY, hb⟩
      have HS8 := Lib.hid (HS7.out.after hb)
      clear hb HS7
      have HRY := Lib.hid hRY
      clear hRY
      go_wp2_with fail
      refine (same_c Y p2 xY P2 f2 σ.p _ HRY.out (HS8.out.ansP2 2 rfl HN1.out.2.1)).mono ?_
      rintro e W9 ⟨rfl, hb⟩
      have HS9 := Lib.hid (HS8.out.after hb)
      clear hb HS8
      go_wp2_with fail
      refine (alive_c _ (HTab.out.after HS9.out.below)).mono ?_
      rintro e W10 ⟨rfl, hb⟩
      have HS10 := Lib.hid (HS9.out.after hb)
      clear hb HS9
      go_wp2_with fail
      go_ret
      exact ⟨rfl, HS10.out.below⟩
    · have HR := Lib.hid hR
      clear hR
      go_wp2_with (first
        | (have hq := HS0; clear hq; (with_reducible refine atBox ?_); refine wpList_alloc_b rfl (some 2) rfl 28 ((scA now up A n c B m d)) (by kernel_rfl) ?_; intro g1 W1 hb hB hg; have HS1 := Lib.hid (HS0.out.new hb hB hg); clear hb hB hg HS0)
        | (have hq := HS1; clear hq; (with_reducible refine atLoad ?_); refine wpList_load_at rfl 28 _ rfl (HS1.out.at_ 0 rfl) 7 (scV now up A n c B m d) rfl _ Tryd.underlying28 rfl (by kernel_rfl) (Nat.le_of_ble_eq_true rfl) rfl ?_))
      refine (far_c now up A n c B m d false _ HF.out).mono ?_
      rintro e W2 ⟨rfl, hb⟩
      have HS2 := Lib.hid (HS1.out.after hb)
      clear hb HS1
      go_wp2_with (have hq := HS2; clear hq; (with_reducible refine atLoad ?_); refine wpList_load_at rfl 28 _ rfl (HS2.out.at_ 0 rfl) 7 (scV now up A n c B m d) rfl _ Tryd.underlying28 rfl (by kernel_rfl) (Nat.le_of_ble_eq_true rfl) rfl ?_)
      refine (theirs_c now up A n c rs B m d ws _ (HA.out.below HS2.out.below) (HB.out.below HS2.out.below) (by omega) (by omega)).mono ?_
      rintro e W3 ⟨A1, c1, B1, d1, rfl, hA1, hB1, hb⟩
      have HS3 := Lib.hid (HS2.out.after hb)
      clear hb HS2
      have HA1 := Lib.hid hA1
      have HB1 := Lib.hid hB1
      clear hA1 hB1
      go_wp2_with fail
      refine (pass_no now up A1 n c1 rs B1 m d1 ws mode _ HA1.out HB1.out HI.out HR.out).mono ?_
      rintro e W4 ⟨rfl, hb⟩
      have HS4 := Lib.hid (HS3.out.after hb)
      clear hb HS3
      go_wp2_with (have hq := HS4; clear hq; (with_reducible refine atLoad ?_); refine wpList_load_at rfl 28 _ rfl (HS4.out.at_ 0 rfl) 7 (scV now up A n c B m d) rfl _ Tryd.underlying28 rfl (by kernel_rfl) (Nat.le_of_ble_eq_true rfl) rfl ?_)
      refine (dpass_no now up A n c rs B m d ws mode _ (HA.out.below HS4.out.below) (HB.out.below HS4.out.below) HR.out).mono ?_
      rintro e W5 ⟨rfl, hb⟩
      have HS5 := Lib.hid (HS4.out.after hb)
      clear hb HS4
      go_wp2_with fail
      refine (ours_c none 0 0 [] _ (RdS.nil _) (by omega)).mono ?_
      rintro e W6 ⟨X, xX, rfl, hRX, hb⟩
      have HS6 := Lib.hid (HS5.out.after hb)
      clear hb HS5
      have HRX := Lib.hid hRX
      clear hRX
      go_wp2_with fail
      refine (same_c X 0 xX none 0 [] _ HRX.out (RdS.nil _)).mono ?_
      rintro e W7 ⟨rfl, hb⟩
      have HS7 := Lib.hid (HS6.out.after hb)
      clear hb HS6
      go_wp2_with fail
      refine (ours_c none 0 0 [] _ (RdS.nil _) (by omega)).mono ?_
      rintro e W8 ⟨Y, xY, rfl, hRY, hb⟩
      have HS8 := Lib.hid (HS7.out.after hb)
      clear hb HS7
      have HRY := Lib.hid hRY
      clear hRY
      go_wp2_with fail
      refine (same_c Y 0 xY none 0 [] _ HRY.out (RdS.nil _)).mono ?_
      rintro e W9 ⟨rfl, hb⟩
      have HS9 := Lib.hid (HS8.out.after hb)
      clear hb HS8
      go_wp2_with fail
      refine (alive_c _ (HTab.out.after HS9.out.below)).mono ?_
      rintro e W10 ⟨rfl, hb⟩
      have HS10 := Lib.hid (HS9.out.after hb)
      clear hb HS9
      go_wp2_with fail
      go_ret
      exact ⟨rfl, HS10.out.below⟩
end Go.Proofs.YtkgphbjneaagoaaDoor

set_option linter.unusedVariables false
set_option maxRecDepth 100000
namespace Go.Proofs.YtkgphbjneaagoaaDoor
open Go.RowKit Go.Sort

/-- A load of an aggregate off cells in a region that lays blocks. -/
theorem wpG_load_ad {P : Program} {ops : Array Oper} {W : World} {Q : Act → Prop} {rest : List Oper} {o : Oper} {a : Act} (hw : Region.wanted o (yielded ops a.tmps) = true) (ty : TypeId) (x : Operand) (ho : o.op = .load ty x)
    (ad : Addr) (vs : List Value) (hpos : vs ≠ []) (hc : ∀ j v, vs[j]? = some v → W.cell? (ad.add j) = some v) (hx : a.eval x = .pointer (some ad)) (d : TypeDesc) (v : Value) (hv : Value.agg vs.toArray = v)
    (hu : P.underlying ty = some d) (hd : (match d with | .struct _ | .array _ _ => true | _ => false) = true) (hi : (P.info? ty).map (·.size) = some vs.length)
    (h : wpG P ops W Q rest (a.put o.dst v)) : wpG P ops W Q (o :: rest) a :=
  wpG_step fun K hK => by
    subst hv
    rw [if_pos hw]
    refine ⟨_, fun p => ?_, hK _ h⟩
    have hc' : ∀ j v, vs[j]? = some v → (grow (redrawn W p.d) p.os).cell? (ad.add j) = some v := fun j v hj => ((below_regrown W p.d p.os).cell (block_lt_of_cell (hc j v hj))).trans (hc j v hj)
    have hl : (loadCells ad vs.length).run P (grow (redrawn W p.d) p.os) = .ok vs.toArray (grow (redrawn W p.d) p.os) := run_loadCells_list (P := P) _ ad vs hc'
    have hr : (loadVar ty ad).run P (grow (redrawn W p.d) p.os) = .ok (.agg vs.toArray) (grow (redrawn W p.d) p.os) := by
      cases hq : P.info? ty with
      | none => simp [hq] at hi
      | some i =>
        have hs : i.size = vs.length := by simpa [hq] using hi
        have hagg : (isAgg ty).run P (grow (redrawn W p.d) p.os) = .ok true (grow (redrawn W p.d) p.os) := by
          unfold isAgg
          rw [Sem.run_bind, run_underlying hu _]
          cases d <;> simp_all
        simp [loadVar, Sem.run_bind, hagg, sizeOf, typeInfo, hq, hs, hl]
    unfold Oper.quietAt execOp
    simp only [ho, hx, Instr.loadAt, Instr.sureAddr, Sem.run_bind, Sem.run_pure, Result.andThen_ok, hr]
    exact ⟨rfl, rfl⟩
theorem wi_cells {W : World} {ad : Addr} {m : Nat} {ws : List Wi} (h : RdW W (some ad) m ws) {x : Wi} (hm : 0 < m) (hx : ws[0]? = some x) : ∀ j v, (wiL x)[j]? = some v → W.cell? (ad.add j) = some v := by
  obtain ⟨ad2, z, e, hz, hc⟩ := h.at_ hm
  cases e
  rw [hx] at hz
  cases hz
  intro j v hv
  have := hc j v hv
  rwa [Nat.zero_mul, Addr.add_zero'] at this
theorem right_k (now : Int) (up : NS) (A : Option Addr) (n c : Nat) (rs : List Ru) (B : Option Addr) (m d : Nat) (ws : List Wi) (w : World) (b : Bool) (hA : RdR w A n rs) (hB : RdW w B m ws) (hb : ∀ x ∈ ws, -9223372036854775808 ≤ x.id ∧ x.id ≤ 9223372036854775807) (he : b = rightB now up rs ws) :
    Calls Tryd.prog 20 #[scV now up A n c B m d] w fun e w' => e = .returned (.bool b) ∧ Below w.heap.size w w' := by
  subst he
  exact right_c now up A n c rs B m d ws w hA hB hb
theorem right_d (now : Int) (up : NS) (A : Option Addr) (n c : Nat) (rs : List Ru) (B : Option Addr) (m d : Nat) (ws : List Wi) (w : World) (b : Bool) (hA : RdR w A n rs) (hB : RdW w B m ws) (he : b = rightB now up rs ws) :
    Calls Tryd.prog 21 #[scV now up A n c B m d] w fun e w' => e = .returned (.bool b) ∧ Below w.heap.size w w' := by
  subst he
  exact dright_c now up A n c rs B m d ws w hA hB
set_option maxHeartbeats 32000000 in
theorem theirs_b (now : Int) (up : NS) (A : Option Addr) (n c : Nat) (rs : List Ru) (B : Option Addr) (m d : Nat) (ws : List Wi) (w : World) (hA : RdR w A n rs) (hB : RdW w B m ws) (hn : n * 40 ≤ 140737488355328) (hm : m * 56 ≤ 140737488355328) :
    Calls Tryd.prog 12 #[scV now up A n c B m d] w fun e w' => ∃ A' c' B' d', e = .returned (scV now up A' n c' B' m d') ∧ RdR w' A' n rs ∧ RdW w' B' m ws ∧ Below w.heap.size w w' := by
  have HA := Lib.hid hA
  have HB := Lib.hid hB
  have HLr := Lib.hid (show rs.length = n from hA.1)
  have HLw := Lib.hid (show ws.length = m from hB.1)
  have HN := Lib.hid (And.intro hn hm)
  have hnI : (n : Int) ≤ 9223372036854775807 := by have := hA.2.1; omega
  have hmI : (m : Int) ≤ 9223372036854775807 := by have := hB.2.1; omega
  clear hA hB hn hm
  go_enter Tryd.func12, Tryd.ntmps12
  have HS0 := Lib.hid (Ms.nil w noB)
  go_wp2_with (first
    | (have hq := HS0; clear hq; (with_reducible refine atBox ?_); refine wpList_alloc_b rfl (some 1) rfl 28 ((scA now up A n c B m d)) (by kernel_rfl) ?_; intro g1 W1 hb hB hg; have HS1 := Lib.hid (HS0.out.new hb hB hg); clear hb hB hg HS0)
    | (have hq := HS1; clear hq; (with_reducible refine atAlloc ?_); refine wpList_alloc_b rfl (some 2) rfl 38 (#[.int .i64 0, .int .u64 0, .int .u64 0, .int .u64 0, .int .u64 0, .slice none 0 0, .slice none 0 0]) (by kernel_rfl) ?_; intro g2 W2 hb hB hg; have HS2 := Lib.hid (HS1.out.new hb hB hg); clear hb hB hg HS1; obtain ⟨r0a, r0b, r0c⟩ := HS2.out.rules 0 rfl)
    | (have hq := HS2; clear hq; (with_reducible refine atLoad ?_); refine wpList_load_at rfl 24 _ rfl (HS2.out.at_ 0 rfl) 4 (.agg #[.int .u64 (wn up 0 : Nat), .int .u64 (wn up 1 : Nat), .int .u64 (wn up 2 : Nat), .int .u64 (wn up 3 : Nat)]) rfl _ Tryd.underlying24 rfl (by kernel_rfl) (Nat.le_of_ble_eq_true rfl) rfl ?_)
    | (have hq := HS2; clear hq; (with_reducible refine atAlloc ?_); refine wpList_alloc_b rfl (some 3) rfl 38 (#[.int .i64 0, .int .u64 0, .int .u64 0, .int .u64 0, .int .u64 0, .slice none 0 0, .slice none 0 0]) (by kernel_rfl) ?_; intro g3 W3 hb hB hg; have HS3 := Lib.hid (HS2.out.new hb hB hg); clear hb hB hg HS2; clear r0a r0b r0c)
    | (have hq := HS3; clear hq; (with_reducible refine atStore ?_); refine wpList_store_at rfl 38 _ _ rfl (HS3.out.at_ 2 rfl) (.agg #[.int .i64 now, .int .u64 (wn up 0 : Nat), .int .u64 (wn up 1 : Nat), .int .u64 (wn up 2 : Nat), .int .u64 (wn up 3 : Nat), .slice none 0 0, .slice none 0 0]) rfl rfl (by kernel_rfl) (Nat.le_of_ble_eq_true rfl) (by kernel_rfl) ?_; intro W4 hB hP; have HS4 := Lib.hid (HS3.out.put 2 rfl (new := #[.int .i64 now, .int .u64 (wn up 0 : Nat), .int .u64 (wn up 1 : Nat), .int .u64 (wn up 2 : Nat), .int .u64 (wn up 3 : Nat), .slice none 0 0, .slice none 0 0]) hB hP); clear hB hP HS3; obtain ⟨r0a, r0b, r0c⟩ := HS4.out.rules 0 rfl))
  have HS5 := Lib.hid (HS4.out.nilS 77 5 ruL)
  clear HS4 r0a r0b r0c
  go_loopw [16] (fun k wr => ∃ (kk : Nat) (A2 : Option Addr) (c2 : Nat), kk ≤ n ∧ k = .int .i64 (kk : Nat) ∧ Hid (Ms w noB [(.blk g1 28 (scA now up A n c B m d)), (.blk g2 38 #[.int .i64 0, .int .u64 0, .int .u64 0, .int .u64 0, .int .u64 0, .slice none 0 0, .slice none 0 0]), .blk g3 38 #[.int .i64 now, .int .u64 (wn up 0 : Nat), .int .u64 (wn up 1 : Nat), .int .u64 (wn up 2 : Nat), .int .u64 (wn up 3 : Nat), .slice A2 (rs.take kk).length c2, .slice none 0 0], rowS 77 5 ruL A2 c2 (rs.take kk)] wr)) (fun k _ => n - (intOf k).toNat)
  case atStart => exact ⟨0, _, _, by omega, rfl, HS5⟩
  case round =>
    obtain ⟨k, A2, c2, hkn, rfl, HS6⟩ := hrel
    by_cases hlt : k < n
    · have hltI : (k : Int) < (n : Int) := by omega
      obtain ⟨ad, x, hAe, hx, hc⟩ := (HA.out.below HS6.out.below).at_ hlt
      subst hAe
      have HC := Lib.hid hc
      have HRX := Lib.hid (take_one hx)
      obtain ⟨R, hR⟩ : ∃ R, R = rs.take k := ⟨_, rfl⟩
      rw [← hR] at HS6 HRX
      have HRL := Lib.hid (show (R.length + 1) * 40 ≤ 140737488355328 by rw [hR, List.length_take]; have := HN.out.1; omega)
      clear hc hx hR
      go_wp2_with (first
        | (have hq := HC; clear hq; refine wpList_load_ad (by kernel_rfl) 55 _ rfl (ad.add (k * 5)) ((ruL x)) HC.out rfl _ (ruV x) rfl Tryd.underlying55 rfl (by kernel_rfl) ?_; clear HC)
        | (have hq := HS6; clear hq; (with_reducible refine atAlloc ?_); refine wpList_alloc_b rfl (some 5) rfl 55 (#[.int .u64 0, .int .u64 0, .int .u64 0, .int .u64 0, .int .i64 0]) (by kernel_rfl) ?_; intro g7 W7 hb hB hg; have HS7 := Lib.hid (HS6.out.new hb hB hg); clear hb hB hg HS6)
        | (have hq := HS7; clear hq; (with_reducible refine atStore ?_); refine wpList_store_at rfl 55 _ _ rfl (HS7.out.at_ 4 rfl) (ruV x) rfl rfl (by kernel_rfl) (Nat.le_of_ble_eq_true rfl) (by kernel_rfl) ?_; intro W8 hB hP; have HS8 := Lib.hid (HS7.out.put 4 rfl (new := (ruA x)) hB hP); clear hB hP HS7; obtain ⟨r2a, r2b, r2c⟩ := HS8.out.rules 2 rfl; obtain ⟨r4a, r4b, r4c⟩ := HS8.out.rules 4 rfl)
        | (have hq := HS8; clear hq; (with_reducible refine atLoad ?_); refine wpList_load_at rfl 24 _ rfl (HS8.out.at_ 4 rfl) 4 (.agg #[.int .u64 (wn x.nodes 0 : Nat), .int .u64 (wn x.nodes 1 : Nat), .int .u64 (wn x.nodes 2 : Nat), .int .u64 (wn x.nodes 3 : Nat)]) rfl _ Tryd.underlying24 rfl (by kernel_rfl) (Nat.le_of_ble_eq_true rfl) rfl ?_)
        | (have hq := HS8; clear hq; (with_reducible refine atBuild ?_); refine wpList_build_b rfl (some 27) rfl 77 1 (#[.int .u64 (wn x.nodes 0 : Nat), .int .u64 (wn x.nodes 1 : Nat), .int .u64 (wn x.nodes 2 : Nat), .int .u64 (wn x.nodes 3 : Nat), .int .i64 x.end_]) (by kernel_rfl) ?_; intro g9 W9 hb hB hg; have HS9 := Lib.hid (HS8.out.new hb hB hg); clear hb hB hg HS8; clear r2a r2b r2c r4a r4b r4c)
        | (have hq := HS9; clear hq; refine append_one HS9.out 3 5 rfl _ _ 35 77 5 40 ruL (.agg #[.int .u64 0, .int .u64 0, .int .u64 0, .int .u64 0, .int .i64 0]) rfl Tryd.underlying35 (by kernel_rfl) rfl (by decide) A2 c2 R x g9 _ _ rfl rfl rfl rfl rfl rfl rfl (HRL.out) (by simp only [maxLen]; have := HRL.out; omega) ?_; intro A10 c10 W10 hM; have HS10 := Lib.hid hM; clear hM HS9)
        | (have hq := HS10; clear hq; (with_reducible refine atStore ?_); refine wpList_store_at rfl 35 _ _ rfl (HS10.out.at_ 2 rfl) (.slice A10 (R.length + 1) c10) rfl rfl (by kernel_rfl) (Nat.le_of_ble_eq_true rfl) (by kernel_rfl) ?_; intro W11 hB hP; have HS11 := Lib.hid (HS10.out.put 2 rfl (new := #[.int .i64 now, .int .u64 (wn up 0 : Nat), .int .u64 (wn up 1 : Nat), .int .u64 (wn up 2 : Nat), .int .u64 (wn up 3 : Nat), .slice A10 (R.length + 1) c10, .slice none 0 0]) hB hP); clear hB hP HS10))
      refine ⟨⟨k + 1, A10, c10, by omega, by go_num, ?_⟩, by simp [intOf]; omega⟩
      rw [HRX.out, show (R ++ [x]).length = R.length + 1 by simp]
      exact Lib.hid (Ms.cut (l := [(.blk g1 28 (scA now up (some ad) n c B m d)), (.blk g2 38 #[.int .i64 0, .int .u64 0, .int .u64 0, .int .u64 0, .int .u64 0, .slice none 0 0, .slice none 0 0]), (.blk g3 38 #[.int .i64 now, .int .u64 (wn up 0 : Nat), .int .u64 (wn up 1 : Nat), .int .u64 (wn up 2 : Nat), .int .u64 (wn up 3 : Nat), .slice A10 (R.length + 1) c10, .slice none 0 0]), rowS 77 5 ruL A10 c10 (R ++ [x])]) (k := [(.blk g7 55 (ruA x)), (.blk g9 77 #[.int .u64 (wn x.nodes 0 : Nat), .int .u64 (wn x.nodes 1 : Nat), .int .u64 (wn x.nodes 2 : Nat), .int .u64 (wn x.nodes 3 : Nat), .int .i64 x.end_])]) HS11.out)
    · obtain rfl : k = n := by omega
      have HQ := HS6.out
      rw [List.take_of_length_le (by rw [HLr.out]; exact Nat.le_refl _)] at HQ
      have HS7 := Lib.hid HQ
      clear HQ HS6
      have HS8 := Lib.hid (HS7.out.nilS 68 7 wiL)
      clear HS7
      obtain ⟨r0a, r0b, r0c⟩ := HS8.out.rules 0 rfl
      go_wp2_with fail
      clear r0a r0b r0c
      go_loopw [34] (fun j wr => ∃ (kk : Nat) (B2 : Option Addr) (d2 : Nat), kk ≤ m ∧ j = .int .i64 (kk : Nat) ∧ Hid (Ms w noB [(.blk g1 28 (scA now up A k c B m d)), (.blk g2 38 #[.int .i64 0, .int .u64 0, .int .u64 0, .int .u64 0, .int .u64 0, .slice none 0 0, .slice none 0 0]), .blk g3 38 #[.int .i64 now, .int .u64 (wn up 0 : Nat), .int .u64 (wn up 1 : Nat), .int .u64 (wn up 2 : Nat), .int .u64 (wn up 3 : Nat), .slice A2 rs.length c2, .slice B2 (ws.take kk).length d2], rowS 77 5 ruL A2 c2 rs, rowS 68 7 wiL B2 d2 (ws.take kk)] wr)) (fun j _ => m - (intOf j).toNat)
      case atStart => exact ⟨0, _, _, by omega, rfl, HS8⟩
      case round =>
        obtain ⟨j, B2, d2, hjm, rfl, HS9⟩ := hrel
        by_cases hlt2 : j < m
        · have hltI : (j : Int) < (m : Int) := by omega
          obtain ⟨ad, x, hBe, hx, hc⟩ := (HB.out.below HS9.out.below).at_ hlt2
          subst hBe
          have HC := Lib.hid hc
          have HRX := Lib.hid (take_one hx)
          obtain ⟨R, hR⟩ : ∃ R, R = ws.take j := ⟨_, rfl⟩
          rw [← hR] at HS9 HRX
          have HRL := Lib.hid (show (R.length + 1) * 56 ≤ 140737488355328 by rw [hR, List.length_take]; have := HN.out.2; omega)
          clear hc hx hR
          go_wp2_with (first
            | (have hq := HC; clear hq; refine wpList_load_ad (by kernel_rfl) 49 _ rfl (ad.add (j * 7)) ((wiL x)) HC.out rfl _ (wiV x) rfl Tryd.underlying49 rfl (by kernel_rfl) ?_; clear HC)
            | (have hq := HS9; clear hq; (with_reducible refine atAlloc ?_); refine wpList_alloc_b rfl (some 7) rfl 49 (#[.int .i64 0, .int .i64 0, .int .i64 0, .int .u64 0, .int .u64 0, .int .u64 0, .int .u64 0]) (by kernel_rfl) ?_; intro g10 W10 hb hB hg; have HS10 := Lib.hid (HS9.out.new hb hB hg); clear hb hB hg HS9)
            | (have hq := HS10; clear hq; (with_reducible refine atStore ?_); refine wpList_store_at rfl 49 _ _ rfl (HS10.out.at_ 5 rfl) (wiV x) rfl rfl (by kernel_rfl) (Nat.le_of_ble_eq_true rfl) (by kernel_rfl) ?_; intro W11 hB hP; have HS11 := Lib.hid (HS10.out.put 5 rfl (new := (wiA x)) hB hP); clear hB hP HS10; obtain ⟨r2a, r2b, r2c⟩ := HS11.out.rules 2 rfl; obtain ⟨r5a, r5b, r5c⟩ := HS11.out.rules 5 rfl)
            | (have hq := HS11; clear hq; (with_reducible refine atLoad ?_); refine wpList_load_at rfl 24 _ rfl (HS11.out.at_ 5 rfl) 4 (.agg #[.int .u64 (wn x.of 0 : Nat), .int .u64 (wn x.of 1 : Nat), .int .u64 (wn x.of 2 : Nat), .int .u64 (wn x.of 3 : Nat)]) rfl _ Tryd.underlying24 rfl (by kernel_rfl) (Nat.le_of_ble_eq_true rfl) rfl ?_)
            | (have hq := HS11; clear hq; (with_reducible refine atBuild ?_); refine wpList_build_b rfl (some 49) rfl 68 1 (#[.int .i64 x.id, .int .i64 x.n, .int .i64 x.long, .int .u64 (wn x.of 0 : Nat), .int .u64 (wn x.of 1 : Nat), .int .u64 (wn x.of 2 : Nat), .int .u64 (wn x.of 3 : Nat)]) (by kernel_rfl) ?_; intro g12 W12 hb hB hg; have HS12 := Lib.hid (HS11.out.new hb hB hg); clear hb hB hg HS11; clear r2a r2b r2c r5a r5b r5c)
            | (have hq := HS12; clear hq; refine append_one HS12.out 4 6 rfl _ _ 36 68 7 56 wiL (.agg #[.int .i64 0, .int .i64 0, .int .i64 0, .int .u64 0, .int .u64 0, .int .u64 0, .int .u64 0]) rfl Tryd.underlying36 (by kernel_rfl) rfl (by decide) B2 d2 R x g12 _ _ rfl rfl rfl rfl rfl rfl rfl (HRL.out) (by simp only [maxLen]; have := HRL.out; omega) ?_; intro A13 c13 W13 hM; have HS13 := Lib.hid hM; clear hM HS12)
            | (have hq := HS13; clear hq; (with_reducible refine atStore ?_); refine wpList_store_at rfl 36 _ _ rfl (HS13.out.at_ 2 rfl) (.slice A13 (R.length + 1) c13) rfl rfl (by kernel_rfl) (Nat.le_of_ble_eq_true rfl) (by kernel_rfl) ?_; intro W14 hB hP; have HS14 := Lib.hid (HS13.out.put 2 rfl (new := #[.int .i64 now, .int .u64 (wn up 0 : Nat), .int .u64 (wn up 1 : Nat), .int .u64 (wn up 2 : Nat), .int .u64 (wn up 3 : Nat), .slice A2 rs.length c2, .slice A13 (R.length + 1) c13]) hB hP); clear hB hP HS13))
          refine ⟨⟨j + 1, A13, c13, by omega, by go_num, ?_⟩, by simp [intOf]; omega⟩
          rw [HRX.out, show (R ++ [x]).length = R.length + 1 by simp]
          exact Lib.hid (Ms.cut (l := [(.blk g1 28 (scA now up A k c (some ad) m d)), (.blk g2 38 #[.int .i64 0, .int .u64 0, .int .u64 0, .int .u64 0, .int .u64 0, .slice none 0 0, .slice none 0 0]), (.blk g3 38 #[.int .i64 now, .int .u64 (wn up 0 : Nat), .int .u64 (wn up 1 : Nat), .int .u64 (wn up 2 : Nat), .int .u64 (wn up 3 : Nat), .slice A2 rs.length c2, .slice A13 (R.length + 1) c13]), rowS 77 5 ruL A2 c2 rs, rowS 68 7 wiL A13 c13 (R ++ [x])]) (k := [(.blk g10 49 (wiA x)), (.blk g12 68 #[.int .i64 x.id, .int .i64 x.n, .int .i64 x.long, .int .u64 (wn x.of 0 : Nat), .int .u64 (wn x.of 1 : Nat), .int .u64 (wn x.of 2 : Nat), .int .u64 (wn x.of 3 : Nat)])]) HS14.out)
        · obtain rfl : j = m := by omega
          have HQ := HS9.out
          rw [List.take_of_length_le (by rw [HLw.out]; exact Nat.le_refl _)] at HQ
          have HS10 := Lib.hid HQ
          clear HQ HS9
          go_wp2_with (first
            | (have hq := HS10; clear hq; (with_reducible refine atLoad ?_); refine wpList_load_at rfl 38 _ rfl (HS10.out.at_ 2 rfl) 7 (.agg #[.int .i64 now, .int .u64 (wn up 0 : Nat), .int .u64 (wn up 1 : Nat), .int .u64 (wn up 2 : Nat), .int .u64 (wn up 3 : Nat), .slice A2 rs.length c2, .slice B2 ws.length d2]) rfl _ Tryd.underlying38 rfl (by kernel_rfl) (Nat.le_of_ble_eq_true rfl) rfl ?_)
            | (have hq := HS10; clear hq; (with_reducible refine atStore ?_); refine wpList_store_at rfl 38 _ _ rfl (HS10.out.at_ 1 rfl) (.agg #[.int .i64 now, .int .u64 (wn up 0 : Nat), .int .u64 (wn up 1 : Nat), .int .u64 (wn up 2 : Nat), .int .u64 (wn up 3 : Nat), .slice A2 rs.length c2, .slice B2 ws.length d2]) rfl rfl (by kernel_rfl) (Nat.le_of_ble_eq_true rfl) (by kernel_rfl) ?_; intro W11 hB hP; have HS11 := Lib.hid (HS10.out.put 1 rfl (new := #[.int .i64 now, .int .u64 (wn up 0 : Nat), .int .u64 (wn up 1 : Nat), .int .u64 (wn up 2 : Nat), .int .u64 (wn up 3 : Nat), .slice A2 rs.length c2, .slice B2 ws.length d2]) hB hP); clear hB hP HS10))
          exact post_cell rfl rfl (HS11.out.at_ 1 rfl) Tryd.underlying38 rfl (by kernel_rfl) rfl ⟨A2, c2, B2, d2, by rw [← HLr.out, ← HLw.out], by rw [← HLr.out]; exact rowS_read (fun _ => rfl) (HS11.out.ok 3 _ rfl), by rw [← HLw.out]; exact rowS_read (fun _ => rfl) (HS11.out.ok 4 _ rfl), HS11.out.below⟩
set_option maxHeartbeats 8000000 in
theorem dhead_no (now : Int) (up : NS) (A : Option Addr) (n c : Nat) (rs : List Ru) (B : Option Addr) (m d : Nat) (ws : List Wi) (w : World) (hA : RdR w A n rs) (hB : RdW w B m ws) (hR : ¬ RightP now up rs ws) :
    Calls Tryd.prog 23 #[scV now up A n c B m d] w fun e w' => e = .returned (.tuple #[plV ⟨0, 0, emptyS⟩, .bool false, .int .i64 1]) ∧ Below w.heap.size w w' := by
  have HA := Lib.hid hA
  have HB := Lib.hid hB
  have HR := Lib.hid hR
  clear hA hB hR
  go_enter Tryd.func23, Tryd.ntmps23
  have HS0 := Lib.hid (Ms.nil w noB)
  go_wp2_with (first
    | (have hq := HS0; clear hq; (with_reducible refine atBox ?_); refine wpList_alloc_b rfl (some 1) rfl 28 ((scA now up A n c B m d)) (by kernel_rfl) ?_; intro g1 W1 hb hB hg; have HS1 := Lib.hid (HS0.out.new hb hB hg); clear hb hB hg HS0)
    | (have hq := HS1; clear hq; (with_reducible refine atAlloc ?_); refine wpList_alloc_b rfl (some 2) rfl 60 (#[.int .i64 0, .int .i64 0, .int .u64 0, .int .u64 0, .int .u64 0, .int .u64 0]) (by kernel_rfl) ?_; intro g2 W2 hb hB hg; have HS2 := Lib.hid (HS1.out.new hb hB hg); clear hb hB hg HS1)
    | (have hq := HS2; clear hq; (with_reducible refine atLoad ?_); refine wpList_load_at rfl 28 _ rfl (HS2.out.at_ 0 rfl) 7 (scV now up A n c B m d) rfl _ Tryd.underlying28 rfl (by kernel_rfl) (Nat.le_of_ble_eq_true rfl) rfl ?_))
  refine (dright_n now up A n c rs B m d ws _ (HA.out.below HS2.out.below) (HB.out.below HS2.out.below) HR.out).mono ?_
  rintro e W3 ⟨rfl, hb⟩
  have HS3 := Lib.hid (HS2.out.after hb)
  clear hb HS2
  go_wp2_with (have hq := HS3; clear hq; (with_reducible refine atStore ?_); refine wpList_store_at rfl 60 _ _ rfl (HS3.out.at_ 1 rfl) (.agg #[.int .i64 0, .int .i64 0, .int .u64 0, .int .u64 0, .int .u64 0, .int .u64 0]) rfl rfl (by kernel_rfl) (Nat.le_of_ble_eq_true rfl) (by kernel_rfl) ?_; intro W4 hB hP; have HS4 := Lib.hid (HS3.out.put 1 rfl (new := #[.int .i64 0, .int .i64 0, .int .u64 0, .int .u64 0, .int .u64 0, .int .u64 0]) hB hP); clear hB hP HS3)
  exact post_cell_tmp2 (x := .bool false) (y := .int .i64 1) rfl rfl rfl rfl (HS4.out.at_ 1 rfl) Tryd.underlying60 rfl (by kernel_rfl) rfl ⟨rfl, HS4.out.below⟩
set_option maxHeartbeats 8000000 in
theorem dhead_nil (now : Int) (up : NS) (A : Option Addr) (n c : Nat) (rs : List Ru) (B : Option Addr) (m d : Nat) (ws : List Wi) (w : World) (hA : RdR w A n rs) (hB : RdW w B m ws) (hR : RightP now up rs ws) (hm : m = 0) :
    Calls Tryd.prog 23 #[scV now up A n c B m d] w fun e w' => e = .returned (.tuple #[plV ⟨0, 0, emptyS⟩, .bool false, .int .i64 0]) ∧ Below w.heap.size w w' := by
  have HA := Lib.hid hA
  have HB := Lib.hid hB
  have HR := Lib.hid hR
  clear hA hB hR
  subst hm
  go_enter Tryd.func23, Tryd.ntmps23
  have HS0 := Lib.hid (Ms.nil w noB)
  go_wp2_with (first
    | (have hq := HS0; clear hq; (with_reducible refine atBox ?_); refine wpList_alloc_b rfl (some 1) rfl 28 ((scA now up A n c B 0 d)) (by kernel_rfl) ?_; intro g1 W1 hb hB hg; have HS1 := Lib.hid (HS0.out.new hb hB hg); clear hb hB hg HS0)
    | (have hq := HS1; clear hq; (with_reducible refine atAlloc ?_); refine wpList_alloc_b rfl (some 2) rfl 60 (#[.int .i64 0, .int .i64 0, .int .u64 0, .int .u64 0, .int .u64 0, .int .u64 0]) (by kernel_rfl) ?_; intro g2 W2 hb hB hg; have HS2 := Lib.hid (HS1.out.new hb hB hg); clear hb hB hg HS1)
    | (have hq := HS2; clear hq; (with_reducible refine atLoad ?_); refine wpList_load_at rfl 28 _ rfl (HS2.out.at_ 0 rfl) 7 (scV now up A n c B 0 d) rfl _ Tryd.underlying28 rfl (by kernel_rfl) (Nat.le_of_ble_eq_true rfl) rfl ?_))
  refine (dright_y now up A n c rs B 0 d ws _ (HA.out.below HS2.out.below) (HB.out.below HS2.out.below) HR.out).mono ?_
  rintro e W3 ⟨rfl, hb⟩
  have HS3 := Lib.hid (HS2.out.after hb)
  clear hb HS2
  obtain ⟨r0a, r0b, r0c⟩ := HS3.out.rules 0 rfl
  go_wp2_with (have hq := HS3; clear hq; (with_reducible refine atStore ?_); refine wpList_store_at rfl 60 _ _ rfl (HS3.out.at_ 1 rfl) (.agg #[.int .i64 0, .int .i64 0, .int .u64 0, .int .u64 0, .int .u64 0, .int .u64 0]) rfl rfl (by kernel_rfl) (Nat.le_of_ble_eq_true rfl) (by kernel_rfl) ?_; intro W4 hB hP; have HS4 := Lib.hid (HS3.out.put 1 rfl (new := #[.int .i64 0, .int .i64 0, .int .u64 0, .int .u64 0, .int .u64 0, .int .u64 0]) hB hP); clear hB hP HS3; clear r0a r0b r0c)
  exact post_cell_tmp2 (x := .bool false) (y := .int .i64 0) rfl rfl rfl rfl (HS4.out.at_ 1 rfl) Tryd.underlying60 rfl (by kernel_rfl) rfl ⟨rfl, HS4.out.below⟩
set_option maxHeartbeats 32000000 in
theorem dhead_y (now : Int) (up : NS) (A : Option Addr) (n c : Nat) (rs : List Ru) (B : Option Addr) (m d : Nat) (ws : List Wi) (w : World) (hA : RdR w A n rs) (hB : RdW w B m ws) (hR : RightP now up rs ws) (hc : cnt up ≤ 24) (hn : n ≤ 12) (x : Wi) (hx : ws[0]? = some x) (y : Pl) (hy : planO up (busyL now up rs) now x = some y) :
    Calls Tryd.prog 23 #[scV now up A n c B m d] w fun e w' => e = .returned (.tuple #[plV y, .bool true, .int .i64 0]) ∧ Below w.heap.size w w' := by
  have HXO := Lib.hid (hR.wish.ok x (List.mem_of_getElem? hx))
  have HYY := Lib.hid hy
  have HX := Lib.hid hx
  have HCN := Lib.hid (show cnt up ≤ 24 ∧ n ≤ 12 from ⟨hc, hn⟩)
  have HBO := Lib.hid (busy_both hR.n0 hR.n1 hc hR.runs (by have := hA.1; omega))
  have hm : 0 < m := by have := hB.1; have := (List.getElem?_eq_some_iff.1 hx).1; omega
  have hmI : (0 : Int) < (m : Int) := by omega
  have hm0 : ((m : Int) == 0) = false := beq_false_of_ne (by omega)
  obtain ⟨ad, _, hBe, _, _⟩ := hB.at_ hm
  subst hBe
  clear hx hy hc hn
  have HA := Lib.hid hA
  have HB := Lib.hid hB
  have HR := Lib.hid hR
  clear hA hB hR
  go_enter Tryd.func23, Tryd.ntmps23
  have HS0 := Lib.hid (Ms.nil w noB)
  go_wp2_with (first
    | (have hq := HS0; clear hq; (with_reducible refine atBox ?_); refine wpList_alloc_b rfl (some 1) rfl 28 ((scA now up A n c (some ad) m d)) (by kernel_rfl) ?_; intro g1 W1 hb hB hg; have HS1 := Lib.hid (HS0.out.new hb hB hg); clear hb hB hg HS0)
    | (have hq := HS1; clear hq; (with_reducible refine atAlloc ?_); refine wpList_alloc_b rfl (some 2) rfl 60 (#[.int .i64 0, .int .i64 0, .int .u64 0, .int .u64 0, .int .u64 0, .int .u64 0]) (by kernel_rfl) ?_; intro g2 W2 hb hB hg; have HS2 := Lib.hid (HS1.out.new hb hB hg); clear hb hB hg HS1)
    | (have hq := HS2; clear hq; (with_reducible refine atLoad ?_); refine wpList_load_at rfl 28 _ rfl (HS2.out.at_ 0 rfl) 7 (scV now up A n c (some ad) m d) rfl _ Tryd.underlying28 rfl (by kernel_rfl) (Nat.le_of_ble_eq_true rfl) rfl ?_))
  refine (dright_y now up A n c rs (some ad) m d ws _ (HA.out.below HS2.out.below) (HB.out.below HS2.out.below) HR.out).mono ?_
  rintro e W3 ⟨rfl, hb⟩
  have HS3 := Lib.hid (HS2.out.after hb)
  clear hb HS2
  obtain ⟨r0a, r0b, r0c⟩ := HS3.out.rules 0 rfl
  go_wp2_with (have hq := HS3; clear hq; (with_reducible refine atLoad ?_); refine wpList_load_at rfl 28 _ rfl (HS3.out.at_ 0 rfl) 7 (scV now up A n c (some ad) m d) rfl _ Tryd.underlying28 rfl (by kernel_rfl) (Nat.le_of_ble_eq_true rfl) rfl ?_)
  refine (dbusy_c now up A n c rs (some ad) m d _ (HA.out.below HS3.out.below) HR.out.n0 HR.out.n1 HR.out.runs HCN.out.1 HCN.out.2).mono ?_
  rintro e W4 ⟨A1, c1, rfl, hM⟩
  have HS4 := Lib.hid (HS3.out.made hM)
  clear hM HS3 r0a r0b r0c
  go_wp2_with (first
    | (have hq := HS4; clear hq; (with_reducible refine atAlloc ?_); refine wpList_alloc_b rfl (some 5) rfl 80 (#[.int .u64 0, .int .u64 0, .int .u64 0, .int .u64 0, .int .i64 0, .slice none 0 0]) (by kernel_rfl) ?_; intro g5 W5 hb hB hg; have HS5 := Lib.hid (HS4.out.new hb hB hg); clear hb hB hg HS4)
    | (have hq := HS5; clear hq; (with_reducible refine atStore ?_); refine wpList_store_at rfl 80 _ _ rfl (HS5.out.at_ 3 rfl) (.agg (dpA up now A1 (busyD now rs).length c1)) rfl rfl (by kernel_rfl) (Nat.le_of_ble_eq_true rfl) (by kernel_rfl) ?_; intro W6 hB hP; have HS6 := Lib.hid (HS5.out.put 3 rfl (new := (dpA up now A1 (busyD now rs).length c1)) hB hP); clear hB hP HS5))
  go_wp2_with fail
  refine region_bl_lend 11 9 10 11 (fun i => Obj.cells #[.int .i64 0, .int .i64 0, .int .u64 0, .int .u64 0, .int .u64 0, .int .u64 0] 60) (Ms w noB _) (by kernel_rfl) rfl rfl rfl rfl (by decide) (by kernel_rfl) (fun _ _ _ _ h => h) (by kernel_rfl) (by kernel_rfl) (by kernel_rfl) (by decide) HS6.out (fun i h1 h2 o ho a w => ?_) ?_
  · obtain rfl : i = 10 := by omega
    simp only [List.set, List.getElem?_toArray, List.getElem?_cons_succ, List.getElem?_cons_zero, Option.some.injEq] at ho
    subst ho
    exact ⟨rfl, by kernel_rfl⟩
  clear HS6
  intro W7 hS
  have q0 := hS.on 0 rfl
  have HCW := Lib.hid (wi_cells (HB.out.below hS.below) hm HX.out)
  have HC0 := Lib.hid (fun (d : Nat) (os : Array Obj) => dplan_y g5 up now _ _ _ _ _ _ x y (grow (redrawn W7 d) os) (HBO.out.f.at_ (hS.after (below_regrown W7 d os)) 3 2 rfl rfl) HBO.out HXO.out HR.out.n1 HYY.out)
  have HS7 := Lib.hid hS
  clear hS
  simp only [List.set, List.take_succ_cons, List.take_zero, List.drop_succ_cons, List.drop_zero, Nat.reduceSub]
  repeat (first | (refine wpG_load_ad (by kernel_rfl) 49 _ rfl (ad) ((wiL x)) (by simp) HCW.out rfl _ (wiV x) rfl Tryd.underlying49 rfl (by kernel_rfl) ?_) | (refine wpG_step (fun K hK => ?_); go_simp; first | (refine hK _ ?_; clear hK K) | (apply Exists.intro; refine ⟨fun _ => ?_, hK _ ?_⟩; (first | with_reducible exact calls_on (HC0.out _ _)); clear hK K)))
  refine wpG_nil ?_
  intro g8 hg8 W9 hb hA
  have HS9 := Lib.hid (HS7.out.laid1 hb hg8 hA)
  clear hb hA HS7 hg8 q0 HCW HC0
  refine wpList_store_at rfl 60 _ _ rfl (HS9.out.at_ 4 rfl) (plV y) rfl rfl (by kernel_rfl) (Nat.le_of_ble_eq_true rfl) (by kernel_rfl) ?_
  intro W10 hB hP
  have HS10 := Lib.hid (HS9.out.put 4 rfl (new := (plA y)) hB hP)
  clear hB hP HS9
  go_wp2_with (first
    | (have hq := HS10; clear hq; (with_reducible refine atLoad ?_); refine wpList_load_at rfl 60 _ rfl (HS10.out.at_ 4 rfl) 6 (plV y) rfl _ Tryd.underlying60 rfl (by kernel_rfl) (Nat.le_of_ble_eq_true rfl) rfl ?_)
    | (have hq := HS10; clear hq; (with_reducible refine atStore ?_); refine wpList_store_at rfl 60 _ _ rfl (HS10.out.at_ 1 rfl) (plV y) rfl rfl (by kernel_rfl) (Nat.le_of_ble_eq_true rfl) (by kernel_rfl) ?_; intro W11 hB hP; have HS11 := Lib.hid (HS10.out.put 1 rfl (new := (plA y)) hB hP); clear hB hP HS10))
  exact post_cell_tmp2 (x := .bool true) (y := .int .i64 0) rfl rfl rfl rfl (HS11.out.at_ 1 rfl) Tryd.underlying60 rfl (by kernel_rfl) rfl ⟨rfl, HS11.out.below⟩
set_option maxHeartbeats 32000000 in
theorem dhead_n (now : Int) (up : NS) (A : Option Addr) (n c : Nat) (rs : List Ru) (B : Option Addr) (m d : Nat) (ws : List Wi) (w : World) (hA : RdR w A n rs) (hB : RdW w B m ws) (hR : RightP now up rs ws) (hc : cnt up ≤ 24) (hn : n ≤ 12) (x : Wi) (hx : ws[0]? = some x) (hy : planO up (busyL now up rs) now x = none) :
    Calls Tryd.prog 23 #[scV now up A n c B m d] w fun e w' => e = .returned (.tuple #[plV ⟨0, 0, emptyS⟩, .bool false, .int .i64 0]) ∧ Below w.heap.size w w' := by
  have HXO := Lib.hid (hR.wish.ok x (List.mem_of_getElem? hx))
  have HYY := Lib.hid hy
  have HX := Lib.hid hx
  have HCN := Lib.hid (show cnt up ≤ 24 ∧ n ≤ 12 from ⟨hc, hn⟩)
  have HBO := Lib.hid (busy_both hR.n0 hR.n1 hc hR.runs (by have := hA.1; omega))
  have hm : 0 < m := by have := hB.1; have := (List.getElem?_eq_some_iff.1 hx).1; omega
  have hmI : (0 : Int) < (m : Int) := by omega
  have hm0 : ((m : Int) == 0) = false := beq_false_of_ne (by omega)
  obtain ⟨ad, _, hBe, _, _⟩ := hB.at_ hm
  subst hBe
  clear hx hy hc hn
  have HA := Lib.hid hA
  have HB := Lib.hid hB
  have HR := Lib.hid hR
  clear hA hB hR
  go_enter Tryd.func23, Tryd.ntmps23
  have HS0 := Lib.hid (Ms.nil w noB)
  go_wp2_with (first
    | (have hq := HS0; clear hq; (with_reducible refine atBox ?_); refine wpList_alloc_b rfl (some 1) rfl 28 ((scA now up A n c (some ad) m d)) (by kernel_rfl) ?_; intro g1 W1 hb hB hg; have HS1 := Lib.hid (HS0.out.new hb hB hg); clear hb hB hg HS0)
    | (have hq := HS1; clear hq; (with_reducible refine atAlloc ?_); refine wpList_alloc_b rfl (some 2) rfl 60 (#[.int .i64 0, .int .i64 0, .int .u64 0, .int .u64 0, .int .u64 0, .int .u64 0]) (by kernel_rfl) ?_; intro g2 W2 hb hB hg; have HS2 := Lib.hid (HS1.out.new hb hB hg); clear hb hB hg HS1)
    | (have hq := HS2; clear hq; (with_reducible refine atLoad ?_); refine wpList_load_at rfl 28 _ rfl (HS2.out.at_ 0 rfl) 7 (scV now up A n c (some ad) m d) rfl _ Tryd.underlying28 rfl (by kernel_rfl) (Nat.le_of_ble_eq_true rfl) rfl ?_))
  refine (dright_y now up A n c rs (some ad) m d ws _ (HA.out.below HS2.out.below) (HB.out.below HS2.out.below) HR.out).mono ?_
  rintro e W3 ⟨rfl, hb⟩
  have HS3 := Lib.hid (HS2.out.after hb)
  clear hb HS2
  obtain ⟨r0a, r0b, r0c⟩ := HS3.out.rules 0 rfl
  go_wp2_with (have hq := HS3; clear hq; (with_reducible refine atLoad ?_); refine wpList_load_at rfl 28 _ rfl (HS3.out.at_ 0 rfl) 7 (scV now up A n c (some ad) m d) rfl _ Tryd.underlying28 rfl (by kernel_rfl) (Nat.le_of_ble_eq_true rfl) rfl ?_)
  refine (dbusy_c now up A n c rs (some ad) m d _ (HA.out.below HS3.out.below) HR.out.n0 HR.out.n1 HR.out.runs HCN.out.1 HCN.out.2).mono ?_
  rintro e W4 ⟨A1, c1, rfl, hM⟩
  have HS4 := Lib.hid (HS3.out.made hM)
  clear hM HS3 r0a r0b r0c
  go_wp2_with (first
    | (have hq := HS4; clear hq; (with_reducible refine atAlloc ?_); refine wpList_alloc_b rfl (some 5) rfl 80 (#[.int .u64 0, .int .u64 0, .int .u64 0, .int .u64 0, .int .i64 0, .slice none 0 0]) (by kernel_rfl) ?_; intro g5 W5 hb hB hg; have HS5 := Lib.hid (HS4.out.new hb hB hg); clear hb hB hg HS4)
    | (have hq := HS5; clear hq; (with_reducible refine atStore ?_); refine wpList_store_at rfl 80 _ _ rfl (HS5.out.at_ 3 rfl) (.agg (dpA up now A1 (busyD now rs).length c1)) rfl rfl (by kernel_rfl) (Nat.le_of_ble_eq_true rfl) (by kernel_rfl) ?_; intro W6 hB hP; have HS6 := Lib.hid (HS5.out.put 3 rfl (new := (dpA up now A1 (busyD now rs).length c1)) hB hP); clear hB hP HS5))
  go_wp2_with fail
  refine region_bl_lend 11 9 10 11 (fun i => Obj.cells #[.int .i64 0, .int .i64 0, .int .u64 0, .int .u64 0, .int .u64 0, .int .u64 0] 60) (Ms w noB _) (by kernel_rfl) rfl rfl rfl rfl (by decide) (by kernel_rfl) (fun _ _ _ _ h => h) (by kernel_rfl) (by kernel_rfl) (by kernel_rfl) (by decide) HS6.out (fun i h1 h2 o ho a w => ?_) ?_
  · obtain rfl : i = 10 := by omega
    simp only [List.set, List.getElem?_toArray, List.getElem?_cons_succ, List.getElem?_cons_zero, Option.some.injEq] at ho
    subst ho
    exact ⟨rfl, by kernel_rfl⟩
  clear HS6
  intro W7 hS
  have q0 := hS.on 0 rfl
  have HCW := Lib.hid (wi_cells (HB.out.below hS.below) hm HX.out)
  have HC0 := Lib.hid (fun (d : Nat) (os : Array Obj) => dplan_n g5 up now _ _ _ _ _ _ x (grow (redrawn W7 d) os) (HBO.out.f.at_ (hS.after (below_regrown W7 d os)) 3 2 rfl rfl) HBO.out HXO.out HR.out.n1 HYY.out)
  have HS7 := Lib.hid hS
  clear hS
  simp only [List.set, List.take_succ_cons, List.take_zero, List.drop_succ_cons, List.drop_zero, Nat.reduceSub]
  repeat (first | (refine wpG_load_ad (by kernel_rfl) 49 _ rfl (ad) ((wiL x)) (by simp) HCW.out rfl _ (wiV x) rfl Tryd.underlying49 rfl (by kernel_rfl) ?_) | (refine wpG_step (fun K hK => ?_); go_simp; first | (refine hK _ ?_; clear hK K) | (apply Exists.intro; refine ⟨fun _ => ?_, hK _ ?_⟩; (first | with_reducible exact calls_on (HC0.out _ _)); clear hK K)))
  refine wpG_nil ?_
  intro g8 hg8 W9 hb hA
  have HS9 := Lib.hid (HS7.out.laid1 hb hg8 hA)
  clear hb hA HS7 hg8 q0 HCW HC0
  refine wpList_store_at rfl 60 _ _ rfl (HS9.out.at_ 4 rfl) (plV (⟨x.id, 0, emptyS⟩ : Pl)) rfl rfl (by kernel_rfl) (Nat.le_of_ble_eq_true rfl) (by kernel_rfl) ?_
  intro W10 hB hP
  have HS10 := Lib.hid (HS9.out.put 4 rfl (new := (plA (⟨x.id, 0, emptyS⟩ : Pl))) hB hP)
  clear hB hP HS9
  go_wp2_with (have hq := HS10; clear hq; (with_reducible refine atStore ?_); refine wpList_store_at rfl 60 _ _ rfl (HS10.out.at_ 1 rfl) (.agg #[.int .i64 0, .int .i64 0, .int .u64 0, .int .u64 0, .int .u64 0, .int .u64 0]) rfl rfl (by kernel_rfl) (Nat.le_of_ble_eq_true rfl) (by kernel_rfl) ?_; intro W11 hB hP; have HS11 := Lib.hid (HS10.out.put 1 rfl (new := #[.int .i64 0, .int .i64 0, .int .u64 0, .int .u64 0, .int .u64 0, .int .u64 0]) hB hP); clear hB hP HS10)
  exact post_cell_tmp2 (x := .bool false) (y := .int .i64 0) rfl rfl rfl rfl (HS11.out.at_ 1 rfl) Tryd.underlying60 rfl (by kernel_rfl) rfl ⟨rfl, HS11.out.below⟩
set_option maxHeartbeats 32000000 in
theorem backHeads_w (now : Int) (up : NS) (A : Option Addr) (n c : Nat) (rs : List Ru) (B : Option Addr) (m d : Nat) (ws : List Wi) (w : World) (hA : RdR w A n rs) (hB : RdW w B m ws) (hb : ∀ x ∈ ws, -9223372036854775808 ≤ x.id ∧ x.id ≤ 9223372036854775807) (hmd : m ≤ d ∧ d ≤ 9223372036854775807) (hT : TabW w) (hN : n * 40 ≤ 140737488355328 ∧ m * 56 ≤ 140737488355328) :
    Calls Tryd.prog 7 #[scV now up A n c B m d] w fun e w' => e = .returned (.bool true) ∧ Below w.heap.size w w' := by
  have HA := Lib.hid hA
  have HB := Lib.hid hB
  have HI := Lib.hid hb
  have HTab := Lib.hid hT
  have HMD := Lib.hid hmd
  have HLw := Lib.hid (show ws.length = m from hB.1)
  have HLr := Lib.hid (show rs.length = n from hA.1)
  have hnI : (n : Int) ≤ 9223372036854775807 := by have := hA.2.1; omega
  have hmI : (m : Int) ≤ 9223372036854775807 := by have := hB.2.1; omega
  clear hA hB hb hT hmd
  have HNN := Lib.hid hN
  clear hN
  obtain ⟨b, hb⟩ : ∃ b, b = rightB now up rs ws := ⟨_, rfl⟩
  have HBB := Lib.hid hb
  clear hb
  have hbb : (b == b) = true := by simp
  have hbn : (b != b) = false := by simp
  by_cases hf : 24 < cnt up ∨ 12 < n ∨ 12 < m
  · have HF := Lib.hid (decide_eq_true hf)
    clear hf
    go_enter Tryd.func7, Tryd.ntmps7
    have HS0 := Lib.hid (Ms.nil w noB)
    go_wp2_with (have hq := HS0; clear hq; (with_reducible refine atBox ?_); refine wpList_alloc_b rfl (some 1) rfl 28 ((scA now up A n c B m d)) (by kernel_rfl) ?_; intro g1 W1 hb hB hg; have HS1 := Lib.hid (HS0.out.new hb hB hg); clear hb hB hg HS0)
    have HK := Lib.hid (fun (V : World) (hb : Below W1.heap.size W1 V) => (show (Below W1.heap.size W1 V ∧ (∀ o, V.cell? ⟨g1, o, none⟩ = (scA now up A n c B m d)[o]?)) from ⟨hb, ((HS1.out.at_ 0 rfl).after hb).cell⟩))
    have HK0 := Lib.hid (HK.out W1.drew (Below.refl _ _).drew)
    have HK2 := Lib.hid (fun (V X : World) (hh : (Below W1.heap.size W1 V ∧ (∀ o, V.cell? ⟨g1, o, none⟩ = (scA now up A n c B m d)[o]?))) (hb : Below V.heap.size V X) => HK.out X (below_then hh.1 hh.1.size hb))
    have HT1 := Lib.hid (fun (V : World) (hh : (Below W1.heap.size W1 V ∧ (∀ o, V.cell? ⟨g1, o, none⟩ = (scA now up A n c B m d)[o]?))) => theirs_b now up A n c rs B m d ws V (HA.out.below (below_then HS1.out.below HS1.out.below.size hh.1)) (HB.out.below (below_then HS1.out.below HS1.out.below.size hh.1)) HNN.out.1 HNN.out.2)
    have HT2 := Lib.hid (fun (V : World) (hh : (Below W1.heap.size W1 V ∧ (∀ o, V.cell? ⟨g1, o, none⟩ = (scA now up A n c B m d)[o]?))) => right_d now up A n c rs B m d ws V b (HA.out.below (below_then HS1.out.below HS1.out.below.size hh.1)) (HB.out.below (below_then HS1.out.below HS1.out.below.size hh.1)) HBB.out)
    go_region_held3 (fun X2 => (Below W1.heap.size W1 X2 ∧ (∀ o, X2.cell? ⟨g1, o, none⟩ = (scA now up A n c B m d)[o]?)))
      (first | with_reducible exact HK0.out | with_reducible exact HK2.out _ _ ‹_› hb)
      (first
        | ((with_reducible refine (HT1.out _ ‹_›).mono ?_); rintro e w5 ⟨A5, c5, B5, d5, rfl, hA1, hB1, hb⟩; have hS5 := HK2.out _ _ ‹_› hb)
        | ((with_reducible refine (right_k now up A5 n c5 rs B5 m d5 ws _ b (by first | exact hA1 | exact hA1.below ‹_›) (by first | exact hB1 | exact hB1.below ‹_›) HI.out HBB.out).mono ?_); rintro e w6 ⟨rfl, hb⟩; have hS6 := HK2.out _ _ ‹_› hb)
        | ((with_reducible refine (HT2.out _ ‹_›).mono ?_); rintro e w7 ⟨rfl, hb⟩; have hS7 := HK2.out _ _ ‹_› hb; (try have hA1 := hA1.below hb); (try have hB1 := hB1.below hb)))
    all_goals go_wp2_with fail
    all_goals
      refine (far_c now up A n c B m d true _ HF.out).mono ?_
      rintro e W10 ⟨rfl, hb⟩
      have HS10 := Lib.hid (HS1.out.after (HK2.out _ _ ‹_› hb).1)
      clear HK HK0 HK2 HT1 HT2
      go_wp2_with fail
      refine (alive_c _ (HTab.out.after HS10.out.below)).mono ?_
      rintro e W11 ⟨rfl, hb⟩
      have HS11 := Lib.hid (HS10.out.after hb)
      clear hb HS10
      go_wp2_with fail
      go_ret
      exact ⟨rfl, HS11.out.below⟩
  · have HF := Lib.hid (decide_eq_false hf)
    have HCN := Lib.hid (show cnt up ≤ 24 ∧ n ≤ 12 ∧ m ≤ 12 by omega)
    clear hf
    by_cases hR : RightP now up rs ws
    · have HR := Lib.hid hR
      clear hR
      by_cases hm0 : m = 0
      · have HM0 := Lib.hid hm0
        clear hm0
        have HEQ := Lib.hid (fun w9 => show (Op.equalIn 10000 24 (nsV (⟨0, 0, emptyS⟩ : Pl).nodes) (nsV (⟨0, 0, emptyS⟩ : Pl).nodes)).run Tryd.prog w9 = .ok true w9 by rw [eqNs_run]; simp)
        go_enter Tryd.func7, Tryd.ntmps7
        have HS0 := Lib.hid (Ms.nil w noB)
        go_wp2_with (have hq := HS0; clear hq; (with_reducible refine atBox ?_); refine wpList_alloc_b rfl (some 1) rfl 28 ((scA now up A n c B m d)) (by kernel_rfl) ?_; intro g1 W1 hb hB hg; have HS1 := Lib.hid (HS0.out.new hb hB hg); clear hb hB hg HS0)
        have HK := Lib.hid (fun (V : World) (hb : Below W1.heap.size W1 V) => (show (Below W1.heap.size W1 V ∧ (∀ o, V.cell? ⟨g1, o, none⟩ = (scA now up A n c B m d)[o]?)) from ⟨hb, ((HS1.out.at_ 0 rfl).after hb).cell⟩))
        have HK0 := Lib.hid (HK.out W1.drew (Below.refl _ _).drew)
        have HK2 := Lib.hid (fun (V X : World) (hh : (Below W1.heap.size W1 V ∧ (∀ o, V.cell? ⟨g1, o, none⟩ = (scA now up A n c B m d)[o]?))) (hb : Below V.heap.size V X) => HK.out X (below_then hh.1 hh.1.size hb))
        have HT1 := Lib.hid (fun (V : World) (hh : (Below W1.heap.size W1 V ∧ (∀ o, V.cell? ⟨g1, o, none⟩ = (scA now up A n c B m d)[o]?))) => theirs_b now up A n c rs B m d ws V (HA.out.below (below_then HS1.out.below HS1.out.below.size hh.1)) (HB.out.below (below_then HS1.out.below HS1.out.below.size hh.1)) HNN.out.1 HNN.out.2)
        have HT2 := Lib.hid (fun (V : World) (hh : (Below W1.heap.size W1 V ∧ (∀ o, V.cell? ⟨g1, o, none⟩ = (scA now up A n c B m d)[o]?))) => right_d now up A n c rs B m d ws V b (HA.out.below (below_then HS1.out.below HS1.out.below.size hh.1)) (HB.out.below (below_then HS1.out.below HS1.out.below.size hh.1)) HBB.out)
        go_region_held3 (fun X2 => (Below W1.heap.size W1 X2 ∧ (∀ o, X2.cell? ⟨g1, o, none⟩ = (scA now up A n c B m d)[o]?)))
          (first | with_reducible exact HK0.out | with_reducible exact HK2.out _ _ ‹_› hb)
          (first
            | ((with_reducible refine (HT1.out _ ‹_›).mono ?_); rintro e w5 ⟨A5, c5, B5, d5, rfl, hA1, hB1, hb⟩; have hS5 := HK2.out _ _ ‹_› hb)
            | ((with_reducible refine (right_k now up A5 n c5 rs B5 m d5 ws _ b (by first | exact hA1 | exact hA1.below ‹_›) (by first | exact hB1 | exact hB1.below ‹_›) HI.out HBB.out).mono ?_); rintro e w6 ⟨rfl, hb⟩; have hS6 := HK2.out _ _ ‹_› hb)
            | ((with_reducible refine (HT2.out _ ‹_›).mono ?_); rintro e w7 ⟨rfl, hb⟩; have hS7 := HK2.out _ _ ‹_› hb; (try have hA1 := hA1.below hb); (try have hB1 := hB1.below hb)))
        all_goals go_wp2_with fail
        all_goals
          refine (far_c now up A n c B m d false _ HF.out).mono ?_
          rintro e W10 ⟨rfl, hb⟩
          have HS10 := Lib.hid (HS1.out.after (HK2.out _ _ ‹_› hb).1)
          clear HK HK0 HK2 HT1 HT2
          go_wp2_with (have hq := HS10; clear hq; (with_reducible refine atLoad ?_); refine wpList_load_at rfl 28 _ rfl (HS10.out.at_ 0 rfl) 7 (scV now up A n c B m d) rfl _ Tryd.underlying28 rfl (by kernel_rfl) (Nat.le_of_ble_eq_true rfl) rfl ?_)
          refine (theirs_b now up A n c rs B m d ws _ (HA.out.below HS10.out.below) (HB.out.below HS10.out.below) HNN.out.1 HNN.out.2).mono ?_
          rintro e W11 ⟨A1, c1, B1, d1, rfl, hA1, hB1, hb⟩
          have HS11 := Lib.hid (HS10.out.after hb)
          clear hb HS10
          have HA1 := Lib.hid hA1
          have HB1 := Lib.hid hB1
          clear hA1 hB1
          go_wp2_with fail
          refine (head_nil now up A1 n c1 rs B1 m d1 ws _ HA1.out HB1.out HI.out HR.out HM0.out).mono ?_
          rintro e W12 ⟨rfl, hb⟩
          have HS12 := Lib.hid (HS11.out.after hb)
          clear hb HS11
          go_wp2_with (first
            | (have hq := HS12; clear hq; (with_reducible refine atAlloc ?_); refine wpList_alloc_b rfl (some 3) rfl 47 (#[.int .i64 0, .int .i64 0, .int .u64 0, .int .u64 0, .int .u64 0, .int .u64 0]) (by kernel_rfl) ?_; intro g13 W13 hb hB hg; have HS13 := Lib.hid (HS12.out.new hb hB hg); clear hb hB hg HS12)
            | (have hq := HS13; clear hq; (with_reducible refine atStore ?_); refine wpList_store_at rfl 47 _ _ rfl (HS13.out.at_ 1 rfl) (plV (⟨0, 0, emptyS⟩ : Pl)) rfl rfl (by kernel_rfl) (Nat.le_of_ble_eq_true rfl) (by kernel_rfl) ?_; intro W14 hB hP; have HS14 := Lib.hid (HS13.out.put 1 rfl (new := (plA (⟨0, 0, emptyS⟩ : Pl))) hB hP); clear hB hP HS13)
            | (have hq := HS14; clear hq; (with_reducible refine atLoad ?_); refine wpList_load_at rfl 28 _ rfl (HS14.out.at_ 0 rfl) 7 (scV now up A n c B m d) rfl _ Tryd.underlying28 rfl (by kernel_rfl) (Nat.le_of_ble_eq_true rfl) rfl ?_))
          refine (dhead_nil now up A n c rs B m d ws _ (HA.out.below HS14.out.below) (HB.out.below HS14.out.below) HR.out HM0.out).mono ?_
          rintro e W15 ⟨rfl, hb⟩
          have HS15 := Lib.hid (HS14.out.after hb)
          clear hb HS14
          go_wp2_with (first
            | (have hq := HS15; clear hq; (with_reducible refine atAlloc ?_); refine wpList_alloc_b rfl (some 6) rfl 60 (#[.int .i64 0, .int .i64 0, .int .u64 0, .int .u64 0, .int .u64 0, .int .u64 0]) (by kernel_rfl) ?_; intro g16 W16 hb hB hg; have HS16 := Lib.hid (HS15.out.new hb hB hg); clear hb hB hg HS15)
            | (have hq := HS16; clear hq; (with_reducible refine atStore ?_); refine wpList_store_at rfl 60 _ _ rfl (HS16.out.at_ 2 rfl) (plV (⟨0, 0, emptyS⟩ : Pl)) rfl rfl (by kernel_rfl) (Nat.le_of_ble_eq_true rfl) (by kernel_rfl) ?_; intro W17 hB hP; have HS17 := Lib.hid (HS16.out.put 2 rfl (new := (plA (⟨0, 0, emptyS⟩ : Pl))) hB hP); clear hB hP HS16; obtain ⟨r1a, r1b, r1c⟩ := HS17.out.rules 1 rfl; obtain ⟨r2a, r2b, r2c⟩ := HS17.out.rules 2 rfl)
            | (have hq := HS17; clear hq; refine wpList_load_g (by kernel_rfl) 24 _ rfl (HS17.out.at_ 1 rfl) 4 (.agg #[.int .u64 (wn (⟨0, 0, emptyS⟩ : Pl).nodes 0 : Nat), .int .u64 (wn (⟨0, 0, emptyS⟩ : Pl).nodes 1 : Nat), .int .u64 (wn (⟨0, 0, emptyS⟩ : Pl).nodes 2 : Nat), .int .u64 (wn (⟨0, 0, emptyS⟩ : Pl).nodes 3 : Nat)]) rfl _ Tryd.underlying24 rfl (by kernel_rfl) (Nat.le_of_ble_eq_true rfl) rfl ?_)
            | (have hq := HS17; clear hq; refine wpList_load_g (by kernel_rfl) 24 _ rfl (HS17.out.at_ 2 rfl) 4 (.agg #[.int .u64 (wn (⟨0, 0, emptyS⟩ : Pl).nodes 0 : Nat), .int .u64 (wn (⟨0, 0, emptyS⟩ : Pl).nodes 1 : Nat), .int .u64 (wn (⟨0, 0, emptyS⟩ : Pl).nodes 2 : Nat), .int .u64 (wn (⟨0, 0, emptyS⟩ : Pl).nodes 3 : Nat)]) rfl _ Tryd.underlying24 rfl (by kernel_rfl) (Nat.le_of_ble_eq_true rfl) rfl ?_)
            | (have hq := HS17; clear hq; refine wpList_eql (by kernel_rfl) 24 _ _ _ rfl rfl rfl (by kernel_rfl) true (HEQ.out _) ?_))
          refine (alive_c _ (HTab.out.after HS17.out.below)).mono ?_
          rintro e W18 ⟨rfl, hb⟩
          have HS18 := Lib.hid (HS17.out.after hb)
          clear hb HS17 r1a r1b r1c r2a r2b r2c
          go_wp2_with fail
          go_ret
          exact ⟨rfl, HS18.out.below⟩
      · obtain ⟨x, hx⟩ : ∃ x, ws[0]? = some x := ⟨_, List.getElem?_eq_getElem (show 0 < ws.length by have := HLw.out; omega)⟩
        have HX := Lib.hid hx
        clear hx hm0
        cases hpl : planO up (busyL now up rs) now x with
        | none =>
          have HPL := Lib.hid hpl
          clear hpl
          have HEQ := Lib.hid (fun w9 => show (Op.equalIn 10000 24 (nsV (⟨0, 0, emptyS⟩ : Pl).nodes) (nsV (⟨0, 0, emptyS⟩ : Pl).nodes)).run Tryd.prog w9 = .ok true w9 by rw [eqNs_run]; simp)
          go_enter Tryd.func7, Tryd.ntmps7
          have HS0 := Lib.hid (Ms.nil w noB)
          go_wp2_with (have hq := HS0; clear hq; (with_reducible refine atBox ?_); refine wpList_alloc_b rfl (some 1) rfl 28 ((scA now up A n c B m d)) (by kernel_rfl) ?_; intro g1 W1 hb hB hg; have HS1 := Lib.hid (HS0.out.new hb hB hg); clear hb hB hg HS0)
          have HK := Lib.hid (fun (V : World) (hb : Below W1.heap.size W1 V) => (show (Below W1.heap.size W1 V ∧ (∀ o, V.cell? ⟨g1, o, none⟩ = (scA now up A n c B m d)[o]?)) from ⟨hb, ((HS1.out.at_ 0 rfl).after hb).cell⟩))
          have HK0 := Lib.hid (HK.out W1.drew (Below.refl _ _).drew)
          have HK2 := Lib.hid (fun (V X : World) (hh : (Below W1.heap.size W1 V ∧ (∀ o, V.cell? ⟨g1, o, none⟩ = (scA now up A n c B m d)[o]?))) (hb : Below V.heap.size V X) => HK.out X (below_then hh.1 hh.1.size hb))
          have HT1 := Lib.hid (fun (V : World) (hh : (Below W1.heap.size W1 V ∧ (∀ o, V.cell? ⟨g1, o, none⟩ = (scA now up A n c B m d)[o]?))) => theirs_b now up A n c rs B m d ws V (HA.out.below (below_then HS1.out.below HS1.out.below.size hh.1)) (HB.out.below (below_then HS1.out.below HS1.out.below.size hh.1)) HNN.out.1 HNN.out.2)
          have HT2 := Lib.hid (fun (V : World) (hh : (Below W1.heap.size W1 V ∧ (∀ o, V.cell? ⟨g1, o, none⟩ = (scA now up A n c B m d)[o]?))) => right_d now up A n c rs B m d ws V b (HA.out.below (below_then HS1.out.below HS1.out.below.size hh.1)) (HB.out.below (below_then HS1.out.below HS1.out.below.size hh.1)) HBB.out)
          go_region_held3 (fun X2 => (Below W1.heap.size W1 X2 ∧ (∀ o, X2.cell? ⟨g1, o, none⟩ = (scA now up A n c B m d)[o]?)))
            (first | with_reducible exact HK0.out | with_reducible exact HK2.out _ _ ‹_› hb)
            (first
              | ((with_reducible refine (HT1.out _ ‹_›).mono ?_); rintro e w5 ⟨A5, c5, B5, d5, rfl, hA1, hB1, hb⟩; have hS5 := HK2.out _ _ ‹_› hb)
              | ((with_reducible refine (right_k now up A5 n c5 rs B5 m d5 ws _ b (by first | exact hA1 | exact hA1.below ‹_›) (by first | exact hB1 | exact hB1.below ‹_›) HI.out HBB.out).mono ?_); rintro e w6 ⟨rfl, hb⟩; have hS6 := HK2.out _ _ ‹_› hb)
              | ((with_reducible refine (HT2.out _ ‹_›).mono ?_); rintro e w7 ⟨rfl, hb⟩; have hS7 := HK2.out _ _ ‹_› hb; (try have hA1 := hA1.below hb); (try have hB1 := hB1.below hb)))
          all_goals go_wp2_with fail
          all_goals
            refine (far_c now up A n c B m d false _ HF.out).mono ?_
            rintro e W10 ⟨rfl, hb⟩
            have HS10 := Lib.hid (HS1.out.after (HK2.out _ _ ‹_› hb).1)
            clear HK HK0 HK2 HT1 HT2
            go_wp2_with (have hq := HS10; clear hq; (with_reducible refine atLoad ?_); refine wpList_load_at rfl 28 _ rfl (HS10.out.at_ 0 rfl) 7 (scV now up A n c B m d) rfl _ Tryd.underlying28 rfl (by kernel_rfl) (Nat.le_of_ble_eq_true rfl) rfl ?_)
            refine (theirs_b now up A n c rs B m d ws _ (HA.out.below HS10.out.below) (HB.out.below HS10.out.below) HNN.out.1 HNN.out.2).mono ?_
            rintro e W11 ⟨A1, c1, B1, d1, rfl, hA1, hB1, hb⟩
            have HS11 := Lib.hid (HS10.out.after hb)
            clear hb HS10
            have HA1 := Lib.hid hA1
            have HB1 := Lib.hid hB1
            clear hA1 hB1
            go_wp2_with fail
            refine (head_cons now up A1 n c1 rs B1 m d1 ws _ HA1.out HB1.out HI.out HR.out x HX.out (⟨0, 0, emptyS⟩ : Pl) false (by rw [HPL.out]; rfl) (by rw [HPL.out]; rfl) (HTab.out.after HS11.out.below)).mono ?_
            rintro e W12 ⟨rfl, hb⟩
            have HS12 := Lib.hid (HS11.out.after hb)
            clear hb HS11
            go_wp2_with (first
              | (have hq := HS12; clear hq; (with_reducible refine atAlloc ?_); refine wpList_alloc_b rfl (some 3) rfl 47 (#[.int .i64 0, .int .i64 0, .int .u64 0, .int .u64 0, .int .u64 0, .int .u64 0]) (by kernel_rfl) ?_; intro g13 W13 hb hB hg; have HS13 := Lib.hid (HS12.out.new hb hB hg); clear hb hB hg HS12)
              | (have hq := HS13; clear hq; (with_reducible refine atStore ?_); refine wpList_store_at rfl 47 _ _ rfl (HS13.out.at_ 1 rfl) (plV (⟨0, 0, emptyS⟩ : Pl)) rfl rfl (by kernel_rfl) (Nat.le_of_ble_eq_true rfl) (by kernel_rfl) ?_; intro W14 hB hP; have HS14 := Lib.hid (HS13.out.put 1 rfl (new := (plA (⟨0, 0, emptyS⟩ : Pl))) hB hP); clear hB hP HS13)
              | (have hq := HS14; clear hq; (with_reducible refine atLoad ?_); refine wpList_load_at rfl 28 _ rfl (HS14.out.at_ 0 rfl) 7 (scV now up A n c B m d) rfl _ Tryd.underlying28 rfl (by kernel_rfl) (Nat.le_of_ble_eq_true rfl) rfl ?_))
            refine (dhead_n now up A n c rs B m d ws _ (HA.out.below HS14.out.below) (HB.out.below HS14.out.below) HR.out HCN.out.1 HCN.out.2.1 x HX.out HPL.out).mono ?_
            rintro e W15 ⟨rfl, hb⟩
            have HS15 := Lib.hid (HS14.out.after hb)
            clear hb HS14
            go_wp2_with (first
              | (have hq := HS15; clear hq; (with_reducible refine atAlloc ?_); refine wpList_alloc_b rfl (some 6) rfl 60 (#[.int .i64 0, .int .i64 0, .int .u64 0, .int .u64 0, .int .u64 0, .int .u64 0]) (by kernel_rfl) ?_; intro g16 W16 hb hB hg; have HS16 := Lib.hid (HS15.out.new hb hB hg); clear hb hB hg HS15)
              | (have hq := HS16; clear hq; (with_reducible refine atStore ?_); refine wpList_store_at rfl 60 _ _ rfl (HS16.out.at_ 2 rfl) (plV (⟨0, 0, emptyS⟩ : Pl)) rfl rfl (by kernel_rfl) (Nat.le_of_ble_eq_true rfl) (by kernel_rfl) ?_; intro W17 hB hP; have HS17 := Lib.hid (HS16.out.put 2 rfl (new := (plA (⟨0, 0, emptyS⟩ : Pl))) hB hP); clear hB hP HS16; obtain ⟨r1a, r1b, r1c⟩ := HS17.out.rules 1 rfl; obtain ⟨r2a, r2b, r2c⟩ := HS17.out.rules 2 rfl)
              | (have hq := HS17; clear hq; refine wpList_load_g (by kernel_rfl) 24 _ rfl (HS17.out.at_ 1 rfl) 4 (.agg #[.int .u64 (wn (⟨0, 0, emptyS⟩ : Pl).nodes 0 : Nat), .int .u64 (wn (⟨0, 0, emptyS⟩ : Pl).nodes 1 : Nat), .int .u64 (wn (⟨0, 0, emptyS⟩ : Pl).nodes 2 : Nat), .int .u64 (wn (⟨0, 0, emptyS⟩ : Pl).nodes 3 : Nat)]) rfl _ Tryd.underlying24 rfl (by kernel_rfl) (Nat.le_of_ble_eq_true rfl) rfl ?_)
              | (have hq := HS17; clear hq; refine wpList_load_g (by kernel_rfl) 24 _ rfl (HS17.out.at_ 2 rfl) 4 (.agg #[.int .u64 (wn (⟨0, 0, emptyS⟩ : Pl).nodes 0 : Nat), .int .u64 (wn (⟨0, 0, emptyS⟩ : Pl).nodes 1 : Nat), .int .u64 (wn (⟨0, 0, emptyS⟩ : Pl).nodes 2 : Nat), .int .u64 (wn (⟨0, 0, emptyS⟩ : Pl).nodes 3 : Nat)]) rfl _ Tryd.underlying24 rfl (by kernel_rfl) (Nat.le_of_ble_eq_true rfl) rfl ?_)
              | (have hq := HS17; clear hq; refine wpList_eql (by kernel_rfl) 24 _ _ _ rfl rfl rfl (by kernel_rfl) true (HEQ.out _) ?_))
            refine (alive_c _ (HTab.out.after HS17.out.below)).mono ?_
            rintro e W18 ⟨rfl, hb⟩
            have HS18 := Lib.hid (HS17.out.after hb)
            clear hb HS17 r1a r1b r1c r2a r2b r2c
            go_wp2_with fail
            go_ret
            exact ⟨rfl, HS18.out.below⟩
        | some y =>
          have HPL := Lib.hid hpl
          clear hpl
          have HEQ := Lib.hid (fun w9 => show (Op.equalIn 10000 24 (nsV y.nodes) (nsV y.nodes)).run Tryd.prog w9 = .ok true w9 by rw [eqNs_run]; simp)
          go_enter Tryd.func7, Tryd.ntmps7
          have HS0 := Lib.hid (Ms.nil w noB)
          go_wp2_with (have hq := HS0; clear hq; (with_reducible refine atBox ?_); refine wpList_alloc_b rfl (some 1) rfl 28 ((scA now up A n c B m d)) (by kernel_rfl) ?_; intro g1 W1 hb hB hg; have HS1 := Lib.hid (HS0.out.new hb hB hg); clear hb hB hg HS0)
          have HK := Lib.hid (fun (V : World) (hb : Below W1.heap.size W1 V) => (show (Below W1.heap.size W1 V ∧ (∀ o, V.cell? ⟨g1, o, none⟩ = (scA now up A n c B m d)[o]?)) from ⟨hb, ((HS1.out.at_ 0 rfl).after hb).cell⟩))
          have HK0 := Lib.hid (HK.out W1.drew (Below.refl _ _).drew)
          have HK2 := Lib.hid (fun (V X : World) (hh : (Below W1.heap.size W1 V ∧ (∀ o, V.cell? ⟨g1, o, none⟩ = (scA now up A n c B m d)[o]?))) (hb : Below V.heap.size V X) => HK.out X (below_then hh.1 hh.1.size hb))
          have HT1 := Lib.hid (fun (V : World) (hh : (Below W1.heap.size W1 V ∧ (∀ o, V.cell? ⟨g1, o, none⟩ = (scA now up A n c B m d)[o]?))) => theirs_b now up A n c rs B m d ws V (HA.out.below (below_then HS1.out.below HS1.out.below.size hh.1)) (HB.out.below (below_then HS1.out.below HS1.out.below.size hh.1)) HNN.out.1 HNN.out.2)
          have HT2 := Lib.hid (fun (V : World) (hh : (Below W1.heap.size W1 V ∧ (∀ o, V.cell? ⟨g1, o, none⟩ = (scA now up A n c B m d)[o]?))) => right_d now up A n c rs B m d ws V b (HA.out.below (below_then HS1.out.below HS1.out.below.size hh.1)) (HB.out.below (below_then HS1.out.below HS1.out.below.size hh.1)) HBB.out)
          go_region_held3 (fun X2 => (Below W1.heap.size W1 X2 ∧ (∀ o, X2.cell? ⟨g1, o, none⟩ = (scA now up A n c B m d)[o]?)))
            (first | with_reducible exact HK0.out | with_reducible exact HK2.out _ _ ‹_› hb)
            (first
              | ((with_reducible refine (HT1.out _ ‹_›).mono ?_); rintro e w5 ⟨A5, c5, B5, d5, rfl, hA1, hB1, hb⟩; have hS5 := HK2.out _ _ ‹_› hb)
              | ((with_reducible refine (right_k now up A5 n c5 rs B5 m d5 ws _ b (by first | exact hA1 | exact hA1.below ‹_›) (by first | exact hB1 | exact hB1.below ‹_›) HI.out HBB.out).mono ?_); rintro e w6 ⟨rfl, hb⟩; have hS6 := HK2.out _ _ ‹_› hb)
              | ((with_reducible refine (HT2.out _ ‹_›).mono ?_); rintro e w7 ⟨rfl, hb⟩; have hS7 := HK2.out _ _ ‹_› hb; (try have hA1 := hA1.below hb); (try have hB1 := hB1.below hb)))
          all_goals go_wp2_with fail
          all_goals
            refine (far_c now up A n c B m d false _ HF.out).mono ?_
            rintro e W10 ⟨rfl, hb⟩
            have HS10 := Lib.hid (HS1.out.after (HK2.out _ _ ‹_› hb).1)
            clear HK HK0 HK2 HT1 HT2
            go_wp2_with (have hq := HS10; clear hq; (with_reducible refine atLoad ?_); refine wpList_load_at rfl 28 _ rfl (HS10.out.at_ 0 rfl) 7 (scV now up A n c B m d) rfl _ Tryd.underlying28 rfl (by kernel_rfl) (Nat.le_of_ble_eq_true rfl) rfl ?_)
            refine (theirs_b now up A n c rs B m d ws _ (HA.out.below HS10.out.below) (HB.out.below HS10.out.below) HNN.out.1 HNN.out.2).mono ?_
            rintro e W11 ⟨A1, c1, B1, d1, rfl, hA1, hB1, hb⟩
            have HS11 := Lib.hid (HS10.out.after hb)
            clear hb HS10
            have HA1 := Lib.hid hA1
            have HB1 := Lib.hid hB1
            clear hA1 hB1
            go_wp2_with fail
            refine (head_cons now up A1 n c1 rs B1 m d1 ws _ HA1.out HB1.out HI.out HR.out x HX.out y true (by rw [HPL.out]; rfl) (by rw [HPL.out]; rfl) (HTab.out.after HS11.out.below)).mono ?_
            rintro e W12 ⟨rfl, hb⟩
            have HS12 := Lib.hid (HS11.out.after hb)
            clear hb HS11
            go_wp2_with (first
              | (have hq := HS12; clear hq; (with_reducible refine atAlloc ?_); refine wpList_alloc_b rfl (some 3) rfl 47 (#[.int .i64 0, .int .i64 0, .int .u64 0, .int .u64 0, .int .u64 0, .int .u64 0]) (by kernel_rfl) ?_; intro g13 W13 hb hB hg; have HS13 := Lib.hid (HS12.out.new hb hB hg); clear hb hB hg HS12)
              | (have hq := HS13; clear hq; (with_reducible refine atStore ?_); refine wpList_store_at rfl 47 _ _ rfl (HS13.out.at_ 1 rfl) (plV y) rfl rfl (by kernel_rfl) (Nat.le_of_ble_eq_true rfl) (by kernel_rfl) ?_; intro W14 hB hP; have HS14 := Lib.hid (HS13.out.put 1 rfl (new := (plA y)) hB hP); clear hB hP HS13)
              | (have hq := HS14; clear hq; (with_reducible refine atLoad ?_); refine wpList_load_at rfl 28 _ rfl (HS14.out.at_ 0 rfl) 7 (scV now up A n c B m d) rfl _ Tryd.underlying28 rfl (by kernel_rfl) (Nat.le_of_ble_eq_true rfl) rfl ?_))
            refine (dhead_y now up A n c rs B m d ws _ (HA.out.below HS14.out.below) (HB.out.below HS14.out.below) HR.out HCN.out.1 HCN.out.2.1 x HX.out y HPL.out).mono ?_
            rintro e W15 ⟨rfl, hb⟩
            have HS15 := Lib.hid (HS14.out.after hb)
            clear hb HS14
            go_wp2_with (first
              | (have hq := HS15; clear hq; (with_reducible refine atAlloc ?_); refine wpList_alloc_b rfl (some 6) rfl 60 (#[.int .i64 0, .int .i64 0, .int .u64 0, .int .u64 0, .int .u64 0, .int .u64 0]) (by kernel_rfl) ?_; intro g16 W16 hb hB hg; have HS16 := Lib.hid (HS15.out.new hb hB hg); clear hb hB hg HS15)
              | (have hq := HS16; clear hq; (with_reducible refine atStore ?_); refine wpList_store_at rfl 60 _ _ rfl (HS16.out.at_ 2 rfl) (plV y) rfl rfl (by kernel_rfl) (Nat.le_of_ble_eq_true rfl) (by kernel_rfl) ?_; intro W17 hB hP; have HS17 := Lib.hid (HS16.out.put 2 rfl (new := (plA y)) hB hP); clear hB hP HS16; obtain ⟨r1a, r1b, r1c⟩ := HS17.out.rules 1 rfl; obtain ⟨r2a, r2b, r2c⟩ := HS17.out.rules 2 rfl)
              | (have hq := HS17; clear hq; refine wpList_load_g (by kernel_rfl) 24 _ rfl (HS17.out.at_ 1 rfl) 4 (.agg #[.int .u64 (wn y.nodes 0 : Nat), .int .u64 (wn y.nodes 1 : Nat), .int .u64 (wn y.nodes 2 : Nat), .int .u64 (wn y.nodes 3 : Nat)]) rfl _ Tryd.underlying24 rfl (by kernel_rfl) (Nat.le_of_ble_eq_true rfl) rfl ?_)
              | (have hq := HS17; clear hq; refine wpList_load_g (by kernel_rfl) 24 _ rfl (HS17.out.at_ 2 rfl) 4 (.agg #[.int .u64 (wn y.nodes 0 : Nat), .int .u64 (wn y.nodes 1 : Nat), .int .u64 (wn y.nodes 2 : Nat), .int .u64 (wn y.nodes 3 : Nat)]) rfl _ Tryd.underlying24 rfl (by kernel_rfl) (Nat.le_of_ble_eq_true rfl) rfl ?_)
              | (have hq := HS17; clear hq; refine wpList_eql (by kernel_rfl) 24 _ _ _ rfl rfl rfl (by kernel_rfl) true (HEQ.out _) ?_))
            refine (alive_c _ (HTab.out.after HS17.out.below)).mono ?_
            rintro e W18 ⟨rfl, hb⟩
            have HS18 := Lib.hid (HS17.out.after hb)
            clear hb HS17 r1a r1b r1c r2a r2b r2c
            go_wp2_with fail
            go_ret
            exact ⟨rfl, HS18.out.below⟩
    · have HR := Lib.hid hR
      clear hR
      have HEQ := Lib.hid (fun w9 => show (Op.equalIn 10000 24 (nsV (⟨0, 0, emptyS⟩ : Pl).nodes) (nsV (⟨0, 0, emptyS⟩ : Pl).nodes)).run Tryd.prog w9 = .ok true w9 by rw [eqNs_run]; simp)
      go_enter Tryd.func7, Tryd.ntmps7
      have HS0 := Lib.hid (Ms.nil w noB)
      go_wp2_with (have hq := HS0; clear hq; (with_reducible refine atBox ?_); refine wpList_alloc_b rfl (some 1) rfl 28 ((scA now up A n c B m d)) (by kernel_rfl) ?_; intro g1 W1 hb hB hg; have HS1 := Lib.hid (HS0.out.new hb hB hg); clear hb hB hg HS0)
      have HK := Lib.hid (fun (V : World) (hb : Below W1.heap.size W1 V) => (show (Below W1.heap.size W1 V ∧ (∀ o, V.cell? ⟨g1, o, none⟩ = (scA now up A n c B m d)[o]?)) from ⟨hb, ((HS1.out.at_ 0 rfl).after hb).cell⟩))
      have HK0 := Lib.hid (HK.out W1.drew (Below.refl _ _).drew)
      have HK2 := Lib.hid (fun (V X : World) (hh : (Below W1.heap.size W1 V ∧ (∀ o, V.cell? ⟨g1, o, none⟩ = (scA now up A n c B m d)[o]?))) (hb : Below V.heap.size V X) => HK.out X (below_then hh.1 hh.1.size hb))
      have HT1 := Lib.hid (fun (V : World) (hh : (Below W1.heap.size W1 V ∧ (∀ o, V.cell? ⟨g1, o, none⟩ = (scA now up A n c B m d)[o]?))) => theirs_b now up A n c rs B m d ws V (HA.out.below (below_then HS1.out.below HS1.out.below.size hh.1)) (HB.out.below (below_then HS1.out.below HS1.out.below.size hh.1)) HNN.out.1 HNN.out.2)
      have HT2 := Lib.hid (fun (V : World) (hh : (Below W1.heap.size W1 V ∧ (∀ o, V.cell? ⟨g1, o, none⟩ = (scA now up A n c B m d)[o]?))) => right_d now up A n c rs B m d ws V b (HA.out.below (below_then HS1.out.below HS1.out.below.size hh.1)) (HB.out.below (below_then HS1.out.below HS1.out.below.size hh.1)) HBB.out)
      go_region_held3 (fun X2 => (Below W1.heap.size W1 X2 ∧ (∀ o, X2.cell? ⟨g1, o, none⟩ = (scA now up A n c B m d)[o]?)))
        (first | with_reducible exact HK0.out | with_reducible exact HK2.out _ _ ‹_› hb)
        (first
          | ((with_reducible refine (HT1.out _ ‹_›).mono ?_); rintro e w5 ⟨A5, c5, B5, d5, rfl, hA1, hB1, hb⟩; have hS5 := HK2.out _ _ ‹_› hb)
          | ((with_reducible refine (right_k now up A5 n c5 rs B5 m d5 ws _ b (by first | exact hA1 | exact hA1.below ‹_›) (by first | exact hB1 | exact hB1.below ‹_›) HI.out HBB.out).mono ?_); rintro e w6 ⟨rfl, hb⟩; have hS6 := HK2.out _ _ ‹_› hb)
          | ((with_reducible refine (HT2.out _ ‹_›).mono ?_); rintro e w7 ⟨rfl, hb⟩; have hS7 := HK2.out _ _ ‹_› hb; (try have hA1 := hA1.below hb); (try have hB1 := hB1.below hb)))
      all_goals go_wp2_with fail
      all_goals
        refine (far_c now up A n c B m d false _ HF.out).mono ?_
        rintro e W10 ⟨rfl, hb⟩
        have HS10 := Lib.hid (HS1.out.after (HK2.out _ _ ‹_› hb).1)
        clear HK HK0 HK2 HT1 HT2
        go_wp2_with (have hq := HS10; clear hq; (with_reducible refine atLoad ?_); refine wpList_load_at rfl 28 _ rfl (HS10.out.at_ 0 rfl) 7 (scV now up A n c B m d) rfl _ Tryd.underlying28 rfl (by kernel_rfl) (Nat.le_of_ble_eq_true rfl) rfl ?_)
        refine (theirs_b now up A n c rs B m d ws _ (HA.out.below HS10.out.below) (HB.out.below HS10.out.below) HNN.out.1 HNN.out.2).mono ?_
        rintro e W11 ⟨A1, c1, B1, d1, rfl, hA1, hB1, hb⟩
        have HS11 := Lib.hid (HS10.out.after hb)
        clear hb HS10
        have HA1 := Lib.hid hA1
        have HB1 := Lib.hid hB1
        clear hA1 hB1
        go_wp2_with fail
        refine (head_no now up A1 n c1 rs B1 m d1 ws _ HA1.out HB1.out HI.out HR.out).mono ?_
        rintro e W12 ⟨rfl, hb⟩
        have HS12 := Lib.hid (HS11.out.after hb)
        clear hb HS11
        go_wp2_with (first
          | (have hq := HS12; clear hq; (with_reducible refine atAlloc ?_); refine wpList_alloc_b rfl (some 3) rfl 47 (#[.int .i64 0, .int .i64 0, .int .u64 0, .int .u64 0, .int .u64 0, .int .u64 0]) (by kernel_rfl) ?_; intro g13 W13 hb hB hg; have HS13 := Lib.hid (HS12.out.new hb hB hg); clear hb hB hg HS12)
          | (have hq := HS13; clear hq; (with_reducible refine atStore ?_); refine wpList_store_at rfl 47 _ _ rfl (HS13.out.at_ 1 rfl) (plV (⟨0, 0, emptyS⟩ : Pl)) rfl rfl (by kernel_rfl) (Nat.le_of_ble_eq_true rfl) (by kernel_rfl) ?_; intro W14 hB hP; have HS14 := Lib.hid (HS13.out.put 1 rfl (new := (plA (⟨0, 0, emptyS⟩ : Pl))) hB hP); clear hB hP HS13)
          | (have hq := HS14; clear hq; (with_reducible refine atLoad ?_); refine wpList_load_at rfl 28 _ rfl (HS14.out.at_ 0 rfl) 7 (scV now up A n c B m d) rfl _ Tryd.underlying28 rfl (by kernel_rfl) (Nat.le_of_ble_eq_true rfl) rfl ?_))
        refine (dhead_no now up A n c rs B m d ws _ (HA.out.below HS14.out.below) (HB.out.below HS14.out.below) HR.out).mono ?_
        rintro e W15 ⟨rfl, hb⟩
        have HS15 := Lib.hid (HS14.out.after hb)
        clear hb HS14
        go_wp2_with (first
          | (have hq := HS15; clear hq; (with_reducible refine atAlloc ?_); refine wpList_alloc_b rfl (some 6) rfl 60 (#[.int .i64 0, .int .i64 0, .int .u64 0, .int .u64 0, .int .u64 0, .int .u64 0]) (by kernel_rfl) ?_; intro g16 W16 hb hB hg; have HS16 := Lib.hid (HS15.out.new hb hB hg); clear hb hB hg HS15)
          | (have hq := HS16; clear hq; (with_reducible refine atStore ?_); refine wpList_store_at rfl 60 _ _ rfl (HS16.out.at_ 2 rfl) (plV (⟨0, 0, emptyS⟩ : Pl)) rfl rfl (by kernel_rfl) (Nat.le_of_ble_eq_true rfl) (by kernel_rfl) ?_; intro W17 hB hP; have HS17 := Lib.hid (HS16.out.put 2 rfl (new := (plA (⟨0, 0, emptyS⟩ : Pl))) hB hP); clear hB hP HS16; obtain ⟨r1a, r1b, r1c⟩ := HS17.out.rules 1 rfl; obtain ⟨r2a, r2b, r2c⟩ := HS17.out.rules 2 rfl)
          | (have hq := HS17; clear hq; refine wpList_load_g (by kernel_rfl) 24 _ rfl (HS17.out.at_ 1 rfl) 4 (.agg #[.int .u64 (wn (⟨0, 0, emptyS⟩ : Pl).nodes 0 : Nat), .int .u64 (wn (⟨0, 0, emptyS⟩ : Pl).nodes 1 : Nat), .int .u64 (wn (⟨0, 0, emptyS⟩ : Pl).nodes 2 : Nat), .int .u64 (wn (⟨0, 0, emptyS⟩ : Pl).nodes 3 : Nat)]) rfl _ Tryd.underlying24 rfl (by kernel_rfl) (Nat.le_of_ble_eq_true rfl) rfl ?_)
          | (have hq := HS17; clear hq; refine wpList_load_g (by kernel_rfl) 24 _ rfl (HS17.out.at_ 2 rfl) 4 (.agg #[.int .u64 (wn (⟨0, 0, emptyS⟩ : Pl).nodes 0 : Nat), .int .u64 (wn (⟨0, 0, emptyS⟩ : Pl).nodes 1 : Nat), .int .u64 (wn (⟨0, 0, emptyS⟩ : Pl).nodes 2 : Nat), .int .u64 (wn (⟨0, 0, emptyS⟩ : Pl).nodes 3 : Nat)]) rfl _ Tryd.underlying24 rfl (by kernel_rfl) (Nat.le_of_ble_eq_true rfl) rfl ?_)
          | (have hq := HS17; clear hq; refine wpList_eql (by kernel_rfl) 24 _ _ _ rfl rfl rfl (by kernel_rfl) true (HEQ.out _) ?_))
        refine (alive_c _ (HTab.out.after HS17.out.below)).mono ?_
        rintro e W18 ⟨rfl, hb⟩
        have HS18 := Lib.hid (HS17.out.after hb)
        clear hb HS17 r1a r1b r1c r2a r2b r2c
        go_wp2_with fail
        go_ret
        exact ⟨rfl, HS18.out.below⟩
end Go.Proofs.YtkgphbjneaagoaaDoor
