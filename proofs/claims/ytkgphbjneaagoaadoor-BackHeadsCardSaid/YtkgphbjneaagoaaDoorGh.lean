/- Back: Pass. -/
import Derived.Test.YtkgphbjneaagoaaDoorGg
import Derived.WalkMore
set_option linter.unusedVariables false
set_option maxRecDepth 100000
namespace Go.Proofs.YtkgphbjneaagoaaDoor
open Go.RowKit Go.Sort

/-- What Pass answers. -/
def PassPost (w : World) (σ : PS) (e : Ending) (w' : World) : Prop := ∃ As cs Ap cp, e = .returned (.tuple #[.slice As σ.s.length cs, .slice Ap σ.p.length cp, .int .i64 0]) ∧ RdPl w' As σ.s.length σ.s ∧ (σ.s.length ≤ cs ∧ cs ≤ 9223372036854775807) ∧ RdPl w' Ap σ.p.length σ.p ∧ (σ.p.length ≤ cp ∧ cp ≤ 9223372036854775807) ∧ Below w.heap.size w w' ∧ Ms w noB [.all [rowPl As cs σ.s, rowPl Ap cp σ.p]] w'
theorem Ms.openAt {w W : World} {ex : Nat → Prop} {L l : List Own} (h : Ms w ex L W) (i : Nat) (hi : L[i]? = some (.all l)) : Ms w ex l W :=
  have h1 := h.ok i _ hi
  ⟨h1.1, fun j o hj k hk => h.lo i _ hi k ⟨j, o, hj, hk⟩, h1.2, h.turn⟩
theorem Ms.sel2 {w W : World} {ex : Nat → Prop} {l : List Own} (h : Ms w ex l W) (a b : Nat) {o0 o1 : Own} (h0 : l[a]? = some o0) (h1 : l[b]? = some o1) (hne : a ≠ b) : Ms w ex [o0, o1] W :=
  h.pick (fun k => if k = 0 then a else b) _ (fun k o hk => by
    match k, hk with
    | 0, hk => simp at hk; subst hk; simpa using h0
    | 1, hk => simp at hk; subst hk; simpa using h1
    | k + 2, hk => simp at hk) (fun x y hx hy he => by
    simp only [List.length_cons, List.length_nil] at hx hy
    rcases (show x = 0 ∨ x = 1 by omega) with rfl | rfl <;> rcases (show y = 0 ∨ y = 1 by omega) with rfl | rfl <;> simp at he ⊢ <;> omega)
theorem pass_fin {w W : World} {L : List Own} (h : Ms w noB L W) (i : Nat) {q g : Nat} {now : Int} {up : NS} {A : Option Addr} {c : Nat} {l : List (Sp NS)} {As : Option Addr} {cs : Nat} {Ap : Option Addr} {cp : Nat} {σ τ : PS} (hi : L[i]? = some (.all (psO q g now up A c l As cs σ.s Ap cp σ.p))) (hs : σ.s = τ.s) (hp : σ.p = τ.p) :
    PassPost w τ (.returned (.tuple #[.slice As σ.s.length cs, .slice Ap σ.p.length cp, .int .i64 0])) W := by
  have h1 := (h.ok i _ hi).1 2 _ rfl
  have h2 := (h.ok i _ hi).1 3 _ rfl
  have h3 := ((h.openAt i hi).sel2 2 3 rfl rfl (by decide)).all
  rw [hs] at h1 h3 ⊢
  rw [hp] at h2 h3 ⊢
  exact ⟨As, cs, Ap, cp, rfl, rowS_read (fun _ => rfl) h1, rowS_cap h1, rowS_read (fun _ => rfl) h2, rowS_cap h2, h.below, h3⟩
theorem right_y (now : Int) (up : NS) (A : Option Addr) (n c : Nat) (rs : List Ru) (B : Option Addr) (m d : Nat) (ws : List Wi) (w : World) (hA : RdR w A n rs) (hB : RdW w B m ws) (hb : ∀ x ∈ ws, -9223372036854775808 ≤ x.id ∧ x.id ≤ 9223372036854775807) (h : RightP now up rs ws) :
    Calls Tryd.prog 20 #[scV now up A n c B m d] w fun e w' => e = .returned (.bool true) ∧ Below w.heap.size w w' := by
  have := right_c now up A n c rs B m d ws w hA hB hb
  rwa [rightB_yes h] at this
theorem right_n (now : Int) (up : NS) (A : Option Addr) (n c : Nat) (rs : List Ru) (B : Option Addr) (m d : Nat) (ws : List Wi) (w : World) (hA : RdR w A n rs) (hB : RdW w B m ws) (hb : ∀ x ∈ ws, -9223372036854775808 ≤ x.id ∧ x.id ≤ 9223372036854775807) (h : ¬ RightP now up rs ws) :
    Calls Tryd.prog 20 #[scV now up A n c B m d] w fun e w' => e = .returned (.bool false) ∧ Below w.heap.size w w' := by
  have := right_c now up A n c rs B m d ws w hA hB hb
  rwa [rightB_no h] at this
theorem begin_f (now : Int) (up : NS) (A : Option Addr) (n c : Nat) (rs : List Ru) (B : Option Addr) (m d : Nat) (ws : List Wi) (σ : PS) (w : World) (hA : RdR w A n rs) (h : RightP now up rs ws) (hσ : σ = startP now up rs) :
    Calls Tryd.prog 26 #[scV now up A n c B m d] w fun e w' => ∃ q g A' c', e = .returned (.pointer (some ⟨q, 0, none⟩)) ∧ Ms w noB [.all (psO q g now up A' c' σ.l none 0 σ.s none 0 σ.p)] w' := by
  subst hσ
  exact begin_c now up A n c rs B m d w hA h.n0 h.n1 (by have := h.lr; have := hA.1; omega) h.runs.end_
theorem plan_s (q g : Nat) (now : Int) (up : NS) (A : Option Addr) (c : Nat) (σ : PS) (As : Option Addr) (cs : Nat) (Ap : Option Addr) (cp : Nat) (x : Wi) (y : Pl) (w : World)
    (h : (Own.all (psO q g now up A c σ.l As cs σ.s Ap cp σ.p)).ok w) (hG : Goo now σ.l) (hT : TabW w) (hx : WiOk x) (h1 : now ≤ 1099511627776) (hy : planO up σ.l now x = some y) :
    Calls Tryd.prog 27 #[.pointer (some ⟨q, 0, none⟩), wiV x] w fun e w' => e = .returned (.tuple #[plV y, .bool true]) ∧ Below w.heap.size w w' := by
  have := plan_c q g now up A c σ.l As cs σ.s Ap cp σ.p x w h hG hT hx h1
  rw [hy] at this
  exact this
theorem plan_n (q g : Nat) (now : Int) (up : NS) (A : Option Addr) (c : Nat) (σ : PS) (As : Option Addr) (cs : Nat) (Ap : Option Addr) (cp : Nat) (x : Wi) (w : World)
    (h : (Own.all (psO q g now up A c σ.l As cs σ.s Ap cp σ.p)).ok w) (hG : Goo now σ.l) (hT : TabW w) (hx : WiOk x) (h1 : now ≤ 1099511627776) (hy : planO up σ.l now x = none) :
    Calls Tryd.prog 27 #[.pointer (some ⟨q, 0, none⟩), wiV x] w fun e w' => e = .returned (.tuple #[plV ⟨0, 0, emptyS⟩, .bool false]) ∧ Below w.heap.size w w' := by
  have := plan_c q g now up A c σ.l As cs σ.s Ap cp σ.p x w h hG hT hx h1
  rw [hy] at this
  exact this
theorem rule_0 (q g : Nat) (now : Int) (up : NS) (A : Option Addr) (c : Nat) (σ : PS) (As : Option Addr) (cs : Nat) (Ap : Option Addr) (cp : Nat) (w : World)
    (h : (Own.all (psO q g now up A c σ.l As cs σ.s Ap cp σ.p)).ok w) (hT : σ.p.length ≤ 1024) :
    Calls Tryd.prog 29 #[.pointer (some ⟨q, 0, none⟩), .int .i64 0] w fun e w' => e = .returned (.tuple #[.bool false, .bool true]) ∧ Below w.heap.size w w' :=
  rule_c q g now up A c σ.l As cs σ.s Ap cp σ.p 0 w h hT
theorem rule_m (q g : Nat) (now : Int) (up : NS) (A : Option Addr) (c : Nat) (σ : PS) (As : Option Addr) (cs : Nat) (Ap : Option Addr) (cp : Nat) (mode : Int) (b : Bool) (w : World)
    (h : (Own.all (psO q g now up A c σ.l As cs σ.s Ap cp σ.p)).ok w) (hT : σ.p.length ≤ 1024) (hm : ¬ mode = 0) (hb : keeps mode σ.p = b) :
    Calls Tryd.prog 29 #[.pointer (some ⟨q, 0, none⟩), .int .i64 mode] w fun e w' => e = .returned (.tuple #[.bool b, .bool false]) ∧ Below w.heap.size w w' := by
  have := rule_c q g now up A c σ.l As cs σ.s Ap cp σ.p mode w h hT
  rw [if_neg hm, hb, decide_eq_false hm] at this
  exact this
theorem Ms.pass {w W : World} {ex : Nat → Prop} {L : List Own} (h : Ms w ex L W) (i : Nat) {q g : Nat} {now : Int} {up : NS} {A : Option Addr} {c : Nat} {l : List (Sp NS)} {As : Option Addr} {cs : Nat} {S : List Pl} {Ap : Option Addr} {cp : Nat} {T : List Pl} (hi : L[i]? = some (.all (psO q g now up A c l As cs S Ap cp T))) :
    Blk W q 73 (psA g now As cs S Ap cp T) := (h.ok i _ hi).1 0 _ rfl
set_option maxHeartbeats 8000000 in
theorem pass_no (now : Int) (up : NS) (A : Option Addr) (n c : Nat) (rs : List Ru) (B : Option Addr) (m d : Nat) (ws : List Wi) (mode : Int) (w : World) (hA : RdR w A n rs) (hB : RdW w B m ws) (hb : ∀ x ∈ ws, -9223372036854775808 ≤ x.id ∧ x.id ≤ 9223372036854775807) (h : ¬ (RightP now up rs ws ∧ 0 ≤ mode ∧ mode ≤ 2)) :
    Calls Tryd.prog 11 #[scV now up A n c B m d, .int .i64 mode] w fun e w' => e = .returned (.tuple #[.slice none 0 0, .slice none 0 0, .int .i64 1]) ∧ Below w.heap.size w w' := by
  have HA := Lib.hid hA
  have HB := Lib.hid hB
  have HI := Lib.hid hb
  clear hA hB hb
  by_cases hr : RightP now up rs ws
  · have HR := Lib.hid hr
    have hm : mode < 0 ∨ 2 < mode := by
      have : ¬ (0 ≤ mode ∧ mode ≤ 2) := fun h2 => h ⟨hr, h2⟩
      omega
    clear h hr
    rcases hm with hm | hm
    · go_enter Tryd.func11, Tryd.ntmps11
      have HS0 := Lib.hid (Ms.nil w noB)
      go_wp2_with (have hq := HS0; clear hq; (with_reducible refine atBox ?_); refine wpList_alloc_b rfl (some 2) rfl 38 ((scA now up A n c B m d)) (by kernel_rfl) ?_; intro g1 W1 hb hB hg; have HS1 := Lib.hid (HS0.out.new hb hB hg); clear hb hB hg HS0)
      go_step3
      go_wp2_with (have hq := HS1; clear hq; (with_reducible refine atLoad ?_); refine wpList_load_at rfl 38 _ rfl (HS1.out.at_ 0 rfl) 7 (scV now up A n c B m d) rfl _ Tryd.underlying38 rfl (by kernel_rfl) (Nat.le_of_ble_eq_true rfl) rfl ?_)
      refine (right_y now up A n c rs B m d ws _ (HA.out.below HS1.out.below) (HB.out.below HS1.out.below) HI.out HR.out).mono ?_
      rintro e W2 ⟨rfl, hb⟩
      have HS2 := Lib.hid (HS1.out.after hb)
      clear hb HS1
      go_wp2_with fail
      rw [Exit.noGoto_ret]
      go_ret3
      exact ⟨rfl, HS2.out.below⟩
    · have hm0 : 0 ≤ mode := by omega
      go_enter Tryd.func11, Tryd.ntmps11
      have HS0 := Lib.hid (Ms.nil w noB)
      go_wp2_with (have hq := HS0; clear hq; (with_reducible refine atBox ?_); refine wpList_alloc_b rfl (some 2) rfl 38 ((scA now up A n c B m d)) (by kernel_rfl) ?_; intro g1 W1 hb hB hg; have HS1 := Lib.hid (HS0.out.new hb hB hg); clear hb hB hg HS0)
      go_step3
      go_wp2_with (have hq := HS1; clear hq; (with_reducible refine atLoad ?_); refine wpList_load_at rfl 38 _ rfl (HS1.out.at_ 0 rfl) 7 (scV now up A n c B m d) rfl _ Tryd.underlying38 rfl (by kernel_rfl) (Nat.le_of_ble_eq_true rfl) rfl ?_)
      refine (right_y now up A n c rs B m d ws _ (HA.out.below HS1.out.below) (HB.out.below HS1.out.below) HI.out HR.out).mono ?_
      rintro e W2 ⟨rfl, hb⟩
      have HS2 := Lib.hid (HS1.out.after hb)
      clear hb HS1
      go_wp2_with fail
      rw [Exit.noGoto_ret]
      go_ret3
      exact ⟨rfl, HS2.out.below⟩
  · have HR := Lib.hid hr
    clear h hr
    go_enter Tryd.func11, Tryd.ntmps11
    have HS0 := Lib.hid (Ms.nil w noB)
    go_wp2_with (have hq := HS0; clear hq; (with_reducible refine atBox ?_); refine wpList_alloc_b rfl (some 2) rfl 38 ((scA now up A n c B m d)) (by kernel_rfl) ?_; intro g1 W1 hb hB hg; have HS1 := Lib.hid (HS0.out.new hb hB hg); clear hb hB hg HS0)
    go_step3
    go_wp2_with (have hq := HS1; clear hq; (with_reducible refine atLoad ?_); refine wpList_load_at rfl 38 _ rfl (HS1.out.at_ 0 rfl) 7 (scV now up A n c B m d) rfl _ Tryd.underlying38 rfl (by kernel_rfl) (Nat.le_of_ble_eq_true rfl) rfl ?_)
    refine (right_n now up A n c rs B m d ws _ (HA.out.below HS1.out.below) (HB.out.below HS1.out.below) HI.out HR.out).mono ?_
    rintro e W2 ⟨rfl, hb⟩
    have HS2 := Lib.hid (HS1.out.after hb)
    clear hb HS1
    go_wp2_with fail
    rw [Exit.noGoto_ret]
    go_ret3
    exact ⟨rfl, HS2.out.below⟩
set_option maxHeartbeats 32000000 in
theorem pass_yes (now : Int) (up : NS) (A : Option Addr) (n c : Nat) (rs : List Ru) (B : Option Addr) (m d : Nat) (ws : List Wi) (mode : Int) (w : World) (hA : RdR w A n rs) (hB : RdW w B m ws) (hb : ∀ x ∈ ws, -9223372036854775808 ≤ x.id ∧ x.id ≤ 9223372036854775807) (hR : RightP now up rs ws) (h0 : 0 ≤ mode) (h2 : mode ≤ 2) (hT : TabW w) :
    Calls Tryd.prog 11 #[scV now up A n c B m d, .int .i64 mode] w (PassPost w (passP mode up now rs ws)) := by
  obtain ⟨F, hF⟩ := walk_of mode up now rs ws hR.n0 hR.n1
  have HWK := Lib.hid hF
  have HA := Lib.hid hA
  have HB := Lib.hid hB
  have HI := Lib.hid hb
  have HR := Lib.hid hR
  have HTab := Lib.hid hT
  have HM := Lib.hid (show 0 ≤ mode ∧ mode ≤ 2 from ⟨h0, h2⟩)
  have HLw := Lib.hid (show ws.length = m from hB.1)
  have hmI : (m : Int) ≤ 1024 := by have := hR.lw; have := hB.1; omega
  have HML := Lib.hid (fun k => (show (F k).s.length ≤ 1024 ∧ (F k).p.length ≤ 1024 from by have := hF.len k; have := hR.lw; omega))
  obtain ⟨σ, hσ⟩ : ∃ σ, σ = passP mode up now rs ws := ⟨_, rfl⟩
  have HSG := Lib.hid hσ
  rw [← hσ]
  clear hF hA hB hb hR hT hσ
  go_enter Tryd.func11, Tryd.ntmps11
  have HS0 := Lib.hid (Ms.nil w noB)
  go_wp2_with (have hq := HS0; clear hq; (with_reducible refine atBox ?_); refine wpList_alloc_b rfl (some 2) rfl 38 ((scA now up A n c B m d)) (by kernel_rfl) ?_; intro g1 W1 hb hB hg; have HS1 := Lib.hid (HS0.out.new hb hB hg); clear hb hB hg HS0)
  go_step3
  go_wp2_with (have hq := HS1; clear hq; (with_reducible refine atLoad ?_); refine wpList_load_at rfl 38 _ rfl (HS1.out.at_ 0 rfl) 7 (scV now up A n c B m d) rfl _ Tryd.underlying38 rfl (by kernel_rfl) (Nat.le_of_ble_eq_true rfl) rfl ?_)
  refine (right_y now up A n c rs B m d ws _ (HA.out.below HS1.out.below) (HB.out.below HS1.out.below) HI.out HR.out).mono ?_
  rintro e W2 ⟨rfl, hb⟩
  have HS2 := Lib.hid (HS1.out.after hb)
  clear hb HS1
  go_wp2_with (have hq := HS2; clear hq; (with_reducible refine atLoad ?_); refine wpList_load_at rfl 38 _ rfl (HS2.out.at_ 0 rfl) 7 (scV now up A n c B m d) rfl _ Tryd.underlying38 rfl (by kernel_rfl) (Nat.le_of_ble_eq_true rfl) rfl ?_)
  refine (begin_f now up A n c rs B m d ws (F 0) _ (HA.out.below HS2.out.below) HR.out HWK.out.zero).mono ?_
  rintro e W3 ⟨q, g, A3, c3, rfl, hM⟩
  have HS3 := Lib.hid (HS2.out.made hM)
  clear hM HS2
  go_wp2_with fail
  clear h0 h2
  go_wp2_with fail
  go_step3
  obtain ⟨r0a, r0b, r0c⟩ := HS3.out.rules 0 rfl
  go_wp2_with fail
  go_loopw [30] (fun k wr => ∃ (kk : Nat) (A2 : Option Addr) (c2 : Nat) (As : Option Addr) (cs : Nat) (Ap : Option Addr) (cp : Nat), kk ≤ m ∧ k = .int .i64 (kk : Nat) ∧ Hid ((F kk).stop = false) ∧ Hid (Ms w noB [(.blk g1 38 (scA now up A n c B m d)), .all (psO q g now up A2 c2 (F kk).l As cs (F kk).s Ap cp (F kk).p)] wr)) (fun k _ => m - (intOf k).toNat)
  case atStart => exact ⟨0, _, _, _, _, _, _, by omega, rfl, Lib.hid (by rw [HWK.out.zero]; rfl), HS3⟩
  case round =>
    obtain ⟨k, A2, c2, As, cs, Ap, cp, hkm, rfl, HST, HS4⟩ := hrel
    by_cases hlt : k < m
    · have hltI : (k : Int) < (m : Int) := by omega
      obtain ⟨ad, x, hBe, hx, hc⟩ := (HB.out.below HS4.out.below).at_ hlt
      subst hBe
      have HC := Lib.hid hc
      have HX := Lib.hid hx
      have HXO := Lib.hid (HR.out.wish.ok x (List.mem_of_getElem? hx))
      have HST2 := Lib.hid (HWK.out.step k x hx)
      clear hc hx
      cases hpl : planO up (F k).l now x with
      | none =>
        have HPY := Lib.hid hpl
        clear hpl
        go_wp2_with (first
          | (have hq := HC; clear hq; refine wpList_load_ad (by kernel_rfl) 68 _ rfl (ad.add (k * 7)) ((wiL x)) HC.out rfl _ (wiV x) rfl Tryd.underlying68 rfl (by kernel_rfl) ?_; clear HC)
          | (have hq := HS4; clear hq; (with_reducible refine atAlloc ?_); refine wpList_alloc_b rfl (some 9) rfl 68 (#[.int .i64 0, .int .i64 0, .int .i64 0, .int .u64 0, .int .u64 0, .int .u64 0, .int .u64 0]) (by kernel_rfl) ?_; intro g5 W5 hb hB hg; have HS5 := Lib.hid (HS4.out.new hb hB hg); clear hb hB hg HS4)
          | (have hq := HS5; clear hq; (with_reducible refine atStore ?_); refine wpList_store_at rfl 68 _ _ rfl (HS5.out.at_ 2 rfl) (wiV x) rfl rfl (by kernel_rfl) (Nat.le_of_ble_eq_true rfl) (by kernel_rfl) ?_; intro W6 hB hP; have HS6 := Lib.hid (HS5.out.put 2 rfl (new := (wiA x)) hB hP); clear hB hP HS5)
          | (have hq := HS6; clear hq; (with_reducible refine atLoad ?_); refine wpList_load_at rfl 68 _ rfl (HS6.out.at_ 2 rfl) 7 (wiV x) rfl _ Tryd.underlying68 rfl (by kernel_rfl) (Nat.le_of_ble_eq_true rfl) rfl ?_))
        refine (plan_n q g now up _ _ (F k) _ _ _ _ x _ (HS6.out.ok 1 _ rfl) (HWK.out.goo k) (HTab.out.after HS6.out.below) HXO.out HR.out.n1 HPY.out).mono ?_
        rintro e W7 ⟨rfl, hb⟩
        have HS7 := Lib.hid (HS6.out.after hb)
        clear hb HS6
        go_wp2_with (first
          | (have hq := HS7; clear hq; (with_reducible refine atAlloc ?_); refine wpList_alloc_b rfl (some 10) rfl 47 (#[.int .i64 0, .int .i64 0, .int .u64 0, .int .u64 0, .int .u64 0, .int .u64 0]) (by kernel_rfl) ?_; intro g8 W8 hb hB hg; have HS8 := Lib.hid (HS7.out.new hb hB hg); clear hb hB hg HS7)
          | (have hq := HS8; clear hq; (with_reducible refine atStore ?_); refine wpList_store_at rfl 47 _ _ rfl (HS8.out.at_ 3 rfl) (plV (⟨0, 0, emptyS⟩ : Pl)) rfl rfl (by kernel_rfl) (Nat.le_of_ble_eq_true rfl) (by kernel_rfl) ?_; intro W9 hB hP; have HS9 := Lib.hid (HS8.out.put 3 rfl (new := (plA (⟨0, 0, emptyS⟩ : Pl))) hB hP); clear hB hP HS8))
        by_cases hm : mode = 0
        · subst hm
          have HSTP := Lib.hid (HST2.out.trans (step_none0 HST.out HPY.out))
          go_wp2_with fail
          refine region_b (Ms w noB _) (by kernel_rfl) (by kernel_rfl) HS9.out ?_
          clear HS9
          intro W10 hS
          have HS10 := Lib.hid hS
          clear hS
          repeat (first | go_big_quiet_skip | go_big_quiet_step (fail) | quiet_step (fail))
          refine wpQuiet_nil ?_
          intro W11 hb
          have HS11 := Lib.hid (HS10.out.after hb)
          clear hb HS10
          go_wp2_with fail
          refine (rule_0 q g now up _ _ (F k) _ _ _ _ _ (HS11.out.ok 1 _ rfl) (HML.out k).2).mono ?_
          rintro e W12 ⟨rfl, hb⟩
          have HS12 := Lib.hid (HS11.out.after hb)
          clear hb HS11
          go_wp2_with fail
          go_wp2_with fail
          refine region_b (Ms w noB _) (by kernel_rfl) (by kernel_rfl) HS12.out ?_
          clear HS12
          intro W13 hS
          have qq := (fun hB => cells_on (Blk.cell hB) (Blk.lt hB)) (hS.pass 1 rfl)
          have HS13 := Lib.hid hS
          clear hS
          repeat (first | go_big_quiet_skip | go_big_quiet_step (fail) | quiet_step (fail))
          refine wpQuiet_nil ?_
          intro W14 hb
          have HS14 := Lib.hid (HS13.out.after hb)
          clear hb HS13 qq
          go_wp2_with fail
          rw [Exit.noGoto_ret]
          go_ret3
          have HE := HWK.out.stop (k + 1) (by rw [HSTP.out])
          rw [HSTP.out] at HE
          exact pass_fin HS14.out 1 rfl (by rw [HSG.out, ← HE]) (by rw [HSG.out, ← HE])
        · have HSTP := Lib.hid (HST2.out.trans (step_none HST.out HPY.out hm))
          have HM0 := Lib.hid hm
          clear hm
          go_wp2_with fail
          refine region_b (Ms w noB _) (by kernel_rfl) (by kernel_rfl) HS9.out ?_
          clear HS9
          intro W10 hS
          have HS10 := Lib.hid hS
          clear hS
          repeat (first | go_big_quiet_skip | go_big_quiet_step (fail) | quiet_step (fail))
          refine wpQuiet_nil ?_
          intro W11 hb
          have HS11 := Lib.hid (HS10.out.after hb)
          clear hb HS10
          go_wp2_with fail
          refine (rule_m q g now up _ _ (F k) _ _ _ _ mode _ _ (HS11.out.ok 1 _ rfl) (HML.out k).2 HM0.out rfl).mono ?_
          rintro e W12 ⟨rfl, hb⟩
          have HS12 := Lib.hid (HS11.out.after hb)
          clear hb HS11
          go_wp2_with fail
          refine ⟨⟨k + 1, A2, c2, As, cs, Ap, cp, by omega, by go_num, Lib.hid (by rw [HSTP.out]; exact HST.out), ?_⟩, by simp [intOf]; omega⟩
          rw [HSTP.out]
          exact Lib.hid (Ms.cut (l := [(.blk g1 38 (scA now up A n c (some ad) m d)), .all (psO q g now up A2 c2 (F k).l As cs (F k).s Ap cp (F k).p)]) (k := [(.blk g5 68 (wiA x)), (.blk g8 47 (plA (⟨0, 0, emptyS⟩ : Pl)))]) HS12.out)
      | some y =>
        have HPY := Lib.hid hpl
        clear hpl
        go_wp2_with (first
          | (have hq := HC; clear hq; refine wpList_load_ad (by kernel_rfl) 68 _ rfl (ad.add (k * 7)) ((wiL x)) HC.out rfl _ (wiV x) rfl Tryd.underlying68 rfl (by kernel_rfl) ?_; clear HC)
          | (have hq := HS4; clear hq; (with_reducible refine atAlloc ?_); refine wpList_alloc_b rfl (some 9) rfl 68 (#[.int .i64 0, .int .i64 0, .int .i64 0, .int .u64 0, .int .u64 0, .int .u64 0, .int .u64 0]) (by kernel_rfl) ?_; intro g5 W5 hb hB hg; have HS5 := Lib.hid (HS4.out.new hb hB hg); clear hb hB hg HS4)
          | (have hq := HS5; clear hq; (with_reducible refine atStore ?_); refine wpList_store_at rfl 68 _ _ rfl (HS5.out.at_ 2 rfl) (wiV x) rfl rfl (by kernel_rfl) (Nat.le_of_ble_eq_true rfl) (by kernel_rfl) ?_; intro W6 hB hP; have HS6 := Lib.hid (HS5.out.put 2 rfl (new := (wiA x)) hB hP); clear hB hP HS5)
          | (have hq := HS6; clear hq; (with_reducible refine atLoad ?_); refine wpList_load_at rfl 68 _ rfl (HS6.out.at_ 2 rfl) 7 (wiV x) rfl _ Tryd.underlying68 rfl (by kernel_rfl) (Nat.le_of_ble_eq_true rfl) rfl ?_))
        refine (plan_s q g now up _ _ (F k) _ _ _ _ x y _ (HS6.out.ok 1 _ rfl) (HWK.out.goo k) (HTab.out.after HS6.out.below) HXO.out HR.out.n1 HPY.out).mono ?_
        rintro e W7 ⟨rfl, hb⟩
        have HS7 := Lib.hid (HS6.out.after hb)
        clear hb HS6
        go_wp2_with (first
          | (have hq := HS7; clear hq; (with_reducible refine atAlloc ?_); refine wpList_alloc_b rfl (some 10) rfl 47 (#[.int .i64 0, .int .i64 0, .int .u64 0, .int .u64 0, .int .u64 0, .int .u64 0]) (by kernel_rfl) ?_; intro g8 W8 hb hB hg; have HS8 := Lib.hid (HS7.out.new hb hB hg); clear hb hB hg HS7)
          | (have hq := HS8; clear hq; (with_reducible refine atStore ?_); refine wpList_store_at rfl 47 _ _ rfl (HS8.out.at_ 3 rfl) (plV y) rfl rfl (by kernel_rfl) (Nat.le_of_ble_eq_true rfl) (by kernel_rfl) ?_; intro W9 hB hP; have HS9 := Lib.hid (HS8.out.put 3 rfl (new := (plA y)) hB hP); clear hB hP HS8))
        by_cases hat : y.at_ = now
        · have HSTP := Lib.hid (HST2.out.trans (step_now HST.out HPY.out hat))
          have hd : (y.at_ == now) = true := beq_iff_eq.2 hat
          clear hat
          go_wp2_with fail
          refine region_b (Ms w noB _) (by kernel_rfl) (by kernel_rfl) HS9.out ?_
          clear HS9
          intro W10 hS
          have q3 := hS.on 3 rfl
          have qq := (fun hB => cells_on (Blk.cell hB) (Blk.lt hB)) (hS.pass 1 rfl)
          have HS10 := Lib.hid hS
          clear hS
          repeat (first | go_big_quiet_skip | go_big_quiet_step (fail) | quiet_step (fail))
          refine wpQuiet_nil ?_
          intro W11 hb
          have HS11 := Lib.hid (HS10.out.after hb)
          clear hb HS10 q3 qq
          go_wp2_with (first
            | (have hq := HS11; clear hq; (with_reducible refine atLoad ?_); refine wpList_load_at rfl 47 _ rfl (HS11.out.at_ 3 rfl) 6 (plV y) rfl _ Tryd.underlying47 rfl (by kernel_rfl) (Nat.le_of_ble_eq_true rfl) rfl ?_)
            | (have hq := HS11; clear hq; (with_reducible refine atLoad ?_); refine wpList_load_at rfl 68 _ rfl (HS11.out.at_ 2 rfl) 7 (wiV x) rfl _ Tryd.underlying68 rfl (by kernel_rfl) (Nat.le_of_ble_eq_true rfl) rfl ?_))
          refine (keep_f q g now up _ _ _ _ _ _ (F k) y x _ (HS11.out.ok 1 _ rfl) (HWK.out.goo k) HXO.out HPY.out HR.out.n0 (HML.out k).1 (HML.out k).2).mono ?_
          rintro e W12 ⟨A12, c12, As12, cs12, Ap12, cp12, rfl, hM⟩
          have HS12 := Lib.hid (HS11.out.call 1 rfl hM)
          clear hM HS11
          go_wp2_with fail
          refine ⟨⟨k + 1, A12, c12, As12, cs12, Ap12, cp12, by omega, by go_num, Lib.hid (by rw [HSTP.out]; rw [keep_stop]; exact HST.out), ?_⟩, by simp [intOf]; omega⟩
          rw [HSTP.out]
          exact Lib.hid (Ms.cut (l := [(.blk g1 38 (scA now up A n c (some ad) m d)), .all (psO q g now up A12 c12 ((F k).keep up now x y).l As12 cs12 ((F k).keep up now x y).s Ap12 cp12 ((F k).keep up now x y).p)]) (k := [(.blk g5 68 (wiA x)), (.blk g8 47 (plA y))]) HS12.out)
        · have hd : (y.at_ == now) = false := beq_false_of_ne hat
          have HAT := Lib.hid hat
          clear hat
          by_cases hm : mode = 0
          · subst hm
            have HSTP := Lib.hid (HST2.out.trans (step_end HST.out HPY.out HAT.out))
            go_wp2_with fail
            refine region_b (Ms w noB _) (by kernel_rfl) (by kernel_rfl) HS9.out ?_
            clear HS9
            intro W10 hS
            have q3 := hS.on 3 rfl
            have qq := (fun hB => cells_on (Blk.cell hB) (Blk.lt hB)) (hS.pass 1 rfl)
            have HS10 := Lib.hid hS
            clear hS
            repeat (first | go_big_quiet_skip | go_big_quiet_step (fail) | quiet_step (fail))
            refine wpQuiet_nil ?_
            intro W11 hb
            have HS11 := Lib.hid (HS10.out.after hb)
            clear hb HS10 q3 qq
            go_wp2_with fail
            refine (rule_0 q g now up _ _ (F k) _ _ _ _ _ (HS11.out.ok 1 _ rfl) (HML.out k).2).mono ?_
            rintro e W12 ⟨rfl, hb⟩
            have HS12 := Lib.hid (HS11.out.after hb)
            clear hb HS11
            go_wp2_with fail
            go_wp2_with fail
            refine region_b (Ms w noB _) (by kernel_rfl) (by kernel_rfl) HS12.out ?_
            clear HS12
            intro W13 hS
            have qq := (fun hB => cells_on (Blk.cell hB) (Blk.lt hB)) (hS.pass 1 rfl)
            have HS13 := Lib.hid hS
            clear hS
            repeat (first | go_big_quiet_skip | go_big_quiet_step (fail) | quiet_step (fail))
            refine wpQuiet_nil ?_
            intro W14 hb
            have HS14 := Lib.hid (HS13.out.after hb)
            clear hb HS13 qq
            go_wp2_with fail
            rw [Exit.noGoto_ret]
            go_ret3
            have HE := HWK.out.stop (k + 1) (by rw [HSTP.out])
            rw [HSTP.out] at HE
            exact pass_fin HS14.out 1 rfl (by rw [HSG.out, ← HE]) (by rw [HSG.out, ← HE])
          · have HM0 := Lib.hid hm
            clear hm
            cases hk : keeps mode (F k).p with
            | false =>
              have HK := Lib.hid hk
              clear hk
              have HSTP := Lib.hid (HST2.out.trans (step_skip HST.out HPY.out HAT.out HM0.out HK.out))
              go_wp2_with fail
              refine region_b (Ms w noB _) (by kernel_rfl) (by kernel_rfl) HS9.out ?_
              clear HS9
              intro W10 hS
              have q3 := hS.on 3 rfl
              have qq := (fun hB => cells_on (Blk.cell hB) (Blk.lt hB)) (hS.pass 1 rfl)
              have HS10 := Lib.hid hS
              clear hS
              repeat (first | go_big_quiet_skip | go_big_quiet_step (fail) | quiet_step (fail))
              refine wpQuiet_nil ?_
              intro W11 hb
              have HS11 := Lib.hid (HS10.out.after hb)
              clear hb HS10 q3 qq
              go_wp2_with fail
              refine (rule_m q g now up _ _ (F k) _ _ _ _ mode _ _ (HS11.out.ok 1 _ rfl) (HML.out k).2 HM0.out HK.out).mono ?_
              rintro e W12 ⟨rfl, hb⟩
              have HS12 := Lib.hid (HS11.out.after hb)
              clear hb HS11
              go_wp2_with fail
              refine ⟨⟨k + 1, A2, c2, As, cs, Ap, cp, by omega, by go_num, Lib.hid (by rw [HSTP.out]; exact HST.out), ?_⟩, by simp [intOf]; omega⟩
              rw [HSTP.out]
              exact Lib.hid (Ms.cut (l := [(.blk g1 38 (scA now up A n c (some ad) m d)), .all (psO q g now up A2 c2 (F k).l As cs (F k).s Ap cp (F k).p)]) (k := [(.blk g5 68 (wiA x)), (.blk g8 47 (plA y))]) HS12.out)
            | true =>
              have HK := Lib.hid hk
              clear hk
              have HSTP := Lib.hid (HST2.out.trans (step_keep HST.out HPY.out HAT.out HM0.out HK.out))
              go_wp2_with fail
              refine region_b (Ms w noB _) (by kernel_rfl) (by kernel_rfl) HS9.out ?_
              clear HS9
              intro W10 hS
              have q3 := hS.on 3 rfl
              have qq := (fun hB => cells_on (Blk.cell hB) (Blk.lt hB)) (hS.pass 1 rfl)
              have HS10 := Lib.hid hS
              clear hS
              repeat (first | go_big_quiet_skip | go_big_quiet_step (fail) | quiet_step (fail))
              refine wpQuiet_nil ?_
              intro W11 hb
              have HS11 := Lib.hid (HS10.out.after hb)
              clear hb HS10 q3 qq
              go_wp2_with fail
              refine (rule_m q g now up _ _ (F k) _ _ _ _ mode _ _ (HS11.out.ok 1 _ rfl) (HML.out k).2 HM0.out HK.out).mono ?_
              rintro e W12 ⟨rfl, hb⟩
              have HS12 := Lib.hid (HS11.out.after hb)
              clear hb HS11
              go_wp2_with (first
                | (have hq := HS12; clear hq; (with_reducible refine atLoad ?_); refine wpList_load_at rfl 47 _ rfl (HS12.out.at_ 3 rfl) 6 (plV y) rfl _ Tryd.underlying47 rfl (by kernel_rfl) (Nat.le_of_ble_eq_true rfl) rfl ?_)
                | (have hq := HS12; clear hq; (with_reducible refine atLoad ?_); refine wpList_load_at rfl 68 _ rfl (HS12.out.at_ 2 rfl) 7 (wiV x) rfl _ Tryd.underlying68 rfl (by kernel_rfl) (Nat.le_of_ble_eq_true rfl) rfl ?_))
              refine (keep_f q g now up _ _ _ _ _ _ (F k) y x _ (HS12.out.ok 1 _ rfl) (HWK.out.goo k) HXO.out HPY.out HR.out.n0 (HML.out k).1 (HML.out k).2).mono ?_
              rintro e W13 ⟨A13, c13, As13, cs13, Ap13, cp13, rfl, hM⟩
              have HS13 := Lib.hid (HS12.out.call 1 rfl hM)
              clear hM HS12
              go_wp2_with fail
              refine ⟨⟨k + 1, A13, c13, As13, cs13, Ap13, cp13, by omega, by go_num, Lib.hid (by rw [HSTP.out]; rw [keep_stop]; exact HST.out), ?_⟩, by simp [intOf]; omega⟩
              rw [HSTP.out]
              exact Lib.hid (Ms.cut (l := [(.blk g1 38 (scA now up A n c (some ad) m d)), .all (psO q g now up A13 c13 ((F k).keep up now x y).l As13 cs13 ((F k).keep up now x y).s Ap13 cp13 ((F k).keep up now x y).p)]) (k := [(.blk g5 68 (wiA x)), (.blk g8 47 (plA y))]) HS13.out)
    · obtain rfl : k = m := by omega
      go_wp2_with fail
      refine region_b (Ms w noB _) (by kernel_rfl) (by kernel_rfl) HS4.out ?_
      clear HS4
      intro W5 hS
      have qq := (fun hB => cells_on (Blk.cell hB) (Blk.lt hB)) (hS.pass 1 rfl)
      have HS5 := Lib.hid hS
      clear hS
      repeat (first | go_big_quiet_skip | go_big_quiet_step (fail) | quiet_step (fail))
      refine wpQuiet_nil ?_
      intro W6 hb
      have HS6 := Lib.hid (HS5.out.after hb)
      clear hb HS5 qq
      go_wp2_with fail
      rw [Exit.noGoto_ret]
      go_ret3
      have HE := HWK.out.last
      rw [HLw.out] at HE
      exact pass_fin HS6.out 1 rfl (by rw [HSG.out, HE]) (by rw [HSG.out, HE])
end Go.Proofs.YtkgphbjneaagoaaDoor
