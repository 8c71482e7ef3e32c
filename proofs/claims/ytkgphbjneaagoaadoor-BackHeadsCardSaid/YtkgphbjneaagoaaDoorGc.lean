/- Back: a pass in memory; begin. -/
import Derived.Test.YtkgphbjneaagoaaDoorGb
set_option linter.unusedVariables false
set_option maxRecDepth 100000
namespace Go.Proofs.YtkgphbjneaagoaaDoor
open Go.RowKit Go.Sort

abbrev psA (g : Nat) (now : Int) (As : Option Addr) (cs : Nat) (S : List Pl) (Ap : Option Addr) (cp : Nat) (T : List Pl) : Array Value := #[.pointer (some ⟨g, 0, none⟩), .int .i64 now, .slice As S.length cs, .slice Ap T.length cp]
abbrev rowPl := rowS 47 6 plL
/-- A pass: its block, its profile, what it starts, what it plans. -/
abbrev psO (q g : Nat) (now : Int) (up : NS) (A : Option Addr) (c : Nat) (l : List (Sp NS)) (As : Option Addr) (cs : Nat) (S : List Pl) (Ap : Option Addr) (cp : Nat) (T : List Pl) : List Own :=
  [.blk q 73 (psA g now As cs S Ap cp T), .pf g up A c l, rowPl As cs S, rowPl Ap cp T]
theorem Ms.sel4 {w W : World} {ex : Nat → Prop} {l : List Own} (h : Ms w ex l W) (a b c d : Nat) {o0 o1 o2 o3 : Own} (h0 : l[a]? = some o0) (h1 : l[b]? = some o1) (h2 : l[c]? = some o2) (h3 : l[d]? = some o3)
    (hne : a ≠ b ∧ a ≠ c ∧ a ≠ d ∧ b ≠ c ∧ b ≠ d ∧ c ≠ d) : Ms w ex [o0, o1, o2, o3] W :=
  h.pick (fun k => if k = 0 then a else if k = 1 then b else if k = 2 then c else d) _ (fun k o hk => by
    match k, hk with
    | 0, hk => simp at hk; subst hk; simpa using h0
    | 1, hk => simp at hk; subst hk; simpa using h1
    | 2, hk => simp at hk; subst hk; simpa using h2
    | 3, hk => simp at hk; subst hk; simpa using h3
    | k + 4, hk => simp at hk) (fun x y hx hy he => by
    simp only [List.length_cons, List.length_nil] at hx hy
    rcases (show x = 0 ∨ x = 1 ∨ x = 2 ∨ x = 3 by omega) with rfl | rfl | rfl | rfl <;> rcases (show y = 0 ∨ y = 1 ∨ y = 2 ∨ y = 3 by omega) with rfl | rfl | rfl | rfl <;> simp at he ⊢ <;> omega)
theorem busy_goo {now : Int} {up : NS} (h0 : 0 ≤ now) (h1 : now ≤ 1099511627776) : ∀ rs : List Ru, Goo now (busyL now up rs) := by
  refine snoc_ind (goo_one now up h0 (by omega)) (fun rs r ih => ?_)
  have e : busyL now up (rs ++ [r]) = takeL up (busyL now up rs) now now (until_ now r) r.nodes := by unfold busyL; rw [List.foldl_append]; rfl
  rw [e]
  exact ih.take
theorem busy_snoc (now : Int) (up : NS) (rs : List Ru) (r : Ru) : takeL up (busyL now up rs) now now (max r.end_ (now + 1)) r.nodes = busyL now up (rs ++ [r]) := by unfold busyL; rw [List.foldl_append]; rfl
theorem new_b (nodes : NS) (now : Int) (w : World) (h0 : 0 ≤ now) (h1 : now ≤ 1099511627776) : Calls Tryd.prog 42 #[nsV nodes, .int .i64 now] w fun e w' => ∃ g, e = .returned (.tuple #[.pointer (some ⟨g, 0, none⟩), .int .i64 0]) ∧ NewP w nodes [⟨now, nodes⟩] g w' := newP_yes nodes now w h0 h1
theorem take_b (g : Nat) (nodes : NS) (A : Option Addr) (c : Nat) (l : List (Sp NS)) (t0 lo hi : Int) (s : NS) (w : World) (hG : Goo t0 l) (h : (Own.pf g nodes A c l).ok w) :
    Calls Tryd.prog 43 #[.pointer (some ⟨g, 0, none⟩), nsV s, .int .i64 lo, .int .i64 hi] w fun e W => ∃ v, e = .returned (.int .i64 v) ∧ ∃ A' c', Ms w (Own.pf g nodes A c l).bl [.pf g nodes A' c' (takeL nodes l t0 lo hi s)] W :=
  (take_c g nodes A c l t0 lo hi s w (hG.ok h) hG.len).mono fun _ _ ⟨e, A', c', hM⟩ => ⟨_, e, A', c', hM⟩
set_option maxRecDepth 100000 in
set_option maxHeartbeats 32000000 in
theorem begin_c (now : Int) (up : NS) (A : Option Addr) (n c : Nat) (rs : List Ru) (B : Option Addr) (m d : Nat) (w : World) (hA : RdR w A n rs) (h0 : 0 ≤ now) (h1 : now ≤ 1099511627776) (hn : n ≤ 256) (he : ∀ r ∈ rs, 0 ≤ r.end_ ∧ r.end_ ≤ 1099511627776) :
    Calls Tryd.prog 26 #[scV now up A n c B m d] w fun e w' => ∃ q g A' c', e = .returned (.pointer (some ⟨q, 0, none⟩)) ∧ Ms w noB [.all (psO q g now up A' c' (busyL now up rs) none 0 [] none 0 [])] w' := by
  have HA := Lib.hid hA
  have HLr := Lib.hid (show rs.length = n from hA.1)
  have HN := Lib.hid (show 0 ≤ now ∧ now ≤ 1099511627776 from ⟨h0, h1⟩)
  have hnI : (n : Int) ≤ 256 := by omega
  have HGo := Lib.hid (busy_goo (up := up) h0 h1)
  have HE := Lib.hid he
  clear hA he
  go_enter Tryd.func26, Tryd.ntmps26
  have HS0 := Lib.hid (Ms.nil w noB)
  go_wp2_with (first
    | (have hq := HS0; clear hq; (with_reducible refine atBox ?_); refine wpList_alloc_b rfl (some 1) rfl 38 ((scA now up A n c B m d)) (by kernel_rfl) ?_; intro g1 W1 hb hB hg; have HS1 := Lib.hid (HS0.out.new hb hB hg); clear hb hB hg HS0; obtain ⟨r0a, r0b, r0c⟩ := HS1.out.rules 0 rfl)
    | (have hq := HS1; clear hq; (with_reducible refine atLoad ?_); refine wpList_load_at rfl 24 _ rfl (HS1.out.at_ 0 rfl) 4 (.agg #[.int .u64 (wn up 0 : Nat), .int .u64 (wn up 1 : Nat), .int .u64 (wn up 2 : Nat), .int .u64 (wn up 3 : Nat)]) rfl _ Tryd.underlying24 rfl (by kernel_rfl) (Nat.le_of_ble_eq_true rfl) rfl ?_))
  refine (new_b up now _ HN.out.1 HN.out.2).mono ?_
  rintro e W2 ⟨p, rfl, A2, c2, hM⟩
  have HS2 := Lib.hid (HS1.out.made hM)
  clear hM HS1 r0a r0b r0c
  obtain ⟨r0a, r0b, r0c⟩ := HS2.out.rules 0 rfl
  go_wp2_with fail
  go_loopw [18] (fun k wr => ∃ (kk : Nat) (A2 : Option Addr) (c2 : Nat), kk ≤ n ∧ k = .int .i64 (kk : Nat) ∧ Hid (Ms w noB [(.blk g1 38 (scA now up A n c B m d)), .pf p up A2 c2 (busyL now up (rs.take kk))] wr)) (fun k _ => n - (intOf k).toNat)
  case atStart => exact ⟨0, _, _, by omega, rfl, HS2⟩
  case round =>
    obtain ⟨k, A2, c2, hkn, rfl, HS3⟩ := hrel
    by_cases hlt : k < n
    · have hltI : (k : Int) < (n : Int) := by omega
      obtain ⟨ad, x, hAe, hx, hc⟩ := (HA.out.below HS3.out.below).at_ hlt
      subst hAe
      have HC := Lib.hid hc
      have HX := Lib.hid hx
      obtain ⟨e0, e1⟩ := HE.out x (List.mem_of_getElem? hx)
      clear hc hx
      have HB2 := Lib.hid (show takeL up (busyL now up (rs.take k)) now now (max x.end_ (now + 1)) x.nodes = busyL now up (rs.take (k + 1)) by rw [busy_snoc, take_one HX.out])
      go_wp2_with (first
        | (have hq := HC; clear hq; refine wpList_load_ad (by kernel_rfl) 77 _ rfl (ad.add (k * 5)) (ruL x) HC.out rfl _ (ruV x) rfl Tryd.underlying77 rfl (by kernel_rfl) ?_; clear HC)
        | (have hq := HS3; clear hq; (with_reducible refine atAlloc ?_); refine wpList_alloc_b rfl (some 6) rfl 77 (#[.int .u64 0, .int .u64 0, .int .u64 0, .int .u64 0, .int .i64 0]) (by kernel_rfl) ?_; intro g4 W4 hb hB hg; have HS4 := Lib.hid (HS3.out.new hb hB hg); clear hb hB hg HS3)
        | (have hq := HS4; clear hq; (with_reducible refine atStore ?_); refine wpList_store_at rfl 77 _ _ rfl (HS4.out.at_ 2 rfl) (ruV x) rfl rfl (by kernel_rfl) (Nat.le_of_ble_eq_true rfl) (by kernel_rfl) ?_; intro W5 hB hP; have HS5 := Lib.hid (HS4.out.put 2 rfl (new := (ruA x)) hB hP); clear hB hP HS4; obtain ⟨r0a, r0b, r0c⟩ := HS5.out.rules 0 rfl; obtain ⟨r2a, r2b, r2c⟩ := HS5.out.rules 2 rfl)
        | (have hq := HS5; clear hq; (with_reducible refine atLoad ?_); refine wpList_load_at rfl 24 _ rfl (HS5.out.at_ 2 rfl) 4 (.agg #[.int .u64 (wn x.nodes 0 : Nat), .int .u64 (wn x.nodes 1 : Nat), .int .u64 (wn x.nodes 2 : Nat), .int .u64 (wn x.nodes 3 : Nat)]) rfl _ Tryd.underlying24 rfl (by kernel_rfl) (Nat.le_of_ble_eq_true rfl) rfl ?_))
      refine (take_b p up A2 c2 _ now now (max x.end_ (now + 1)) x.nodes _ (HGo.out _) (HS5.out.ok 1 _ rfl)).mono ?_
      rintro e W6 ⟨v, rfl, A6, c6, hM⟩
      have HS6 := Lib.hid (HS5.out.call 1 rfl hM)
      clear hM HS5 r0a r0b r0c r2a r2b r2c
      go_wp2_with fail
      refine ⟨⟨k + 1, A6, c6, by omega, by go_num, ?_⟩, by simp [intOf]; omega⟩
      rw [← HB2.out]
      exact Lib.hid (Ms.cut (l := [(.blk g1 38 (scA now up (some ad) n c B m d)), .pf p up A6 c6 _]) (k := [(.blk g4 77 (ruA x))]) HS6.out)
    · obtain rfl : k = n := by omega
      have HQ := HS3.out
      rw [List.take_of_length_le (by rw [HLr.out]; exact Nat.le_refl _)] at HQ
      have HS4 := Lib.hid HQ
      clear HQ HS3
      obtain ⟨r0a, r0b, r0c⟩ := HS4.out.rules 0 rfl
      go_wp2_with (have hq := HS4; clear hq; (with_reducible refine atBox ?_); refine wpList_alloc_b rfl (some 39) rfl 73 ((psA p now none 0 [] none 0 [])) (by kernel_rfl) ?_; intro g5 W5 hb hB hg; have HS5 := Lib.hid (HS4.out.new hb hB hg); clear hb hB hg HS4; clear r0a r0b r0c)
      go_ret
      exact ⟨g5, p, A2, c2, rfl, ((((HS5.out.nilS 47 6 plL).nilS 47 6 plL).sel4 2 1 3 4 rfl rfl rfl rfl (by decide)).all)⟩
end Go.Proofs.YtkgphbjneaagoaaDoor
