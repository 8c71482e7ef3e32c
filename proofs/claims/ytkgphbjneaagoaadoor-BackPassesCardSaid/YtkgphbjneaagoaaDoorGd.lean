/- Back: plan, rule. -/
import Derived.Test.YtkgphbjneaagoaaDoorGc
import Derived.Deep.RegionHeld3
set_option linter.unusedVariables false
set_option maxRecDepth 100000
namespace Go.Proofs.YtkgphbjneaagoaaDoor
open Go.RowKit Go.Sort

theorem EarlP.is' {nodes : NS} {l : List (Sp NS)} {t0 n long lo : Int} {of : NS} {e : Ending} {t : Int} (h : EarlP nodes l t0 n long lo of e) (hb : ¬ badAsk t0 n long lo) (ht : EarlAt nodes l n long lo of t) :
    e = .returned (.tuple #[.int .i64 t, nsV (firstS (durS nodes l t (t + long) &&& of) n), .int .i64 0]) := by
  cases h with
  | bad h1 => exact absurd h1 hb
  | none h1 h2 => exact absurd ht.will (h2 t ht.ge)
  | some h1 u hu =>
    have e := hu.uniq ht
    rw [e]
theorem EarlP.not {nodes : NS} {l : List (Sp NS)} {t0 n long lo : Int} {of : NS} {e : Ending} (h : EarlP nodes l t0 n long lo of e) (hb : ¬ badAsk t0 n long lo) (hn : earlT nodes l n long lo of = Option.none) :
    e = .returned (.tuple #[.int .i64 0, nsV emptyS, .int .i64 9]) := by
  cases h with
  | bad h1 => exact absurd h1 hb
  | none h1 h2 => rfl
  | some h1 u hu => rw [earlT_some hu] at hn; cases hn
theorem wi_ask {now : Int} {x : Wi} (hx : WiOk x) (h1 : now ≤ 1099511627776) : ¬ badAsk now x.n x.long now := by
  have := hx.n0; have := hx.n1; have := hx.l0; have := hx.l1
  unfold badAsk
  omega
/-- Earliest over a pass's profile, exactly. -/
theorem early_yes (g : Nat) (up : NS) (A : Option Addr) (c : Nat) (l : List (Sp NS)) (now : Int) (x : Wi) (t : Int) (w : World) (hG : Goo now l) (h : (Own.pf g up A c l).ok w) (hT : TabW w) (hx : WiOk x) (h1 : now ≤ 1099511627776) (ht : earlT up l x.n x.long now x.of = some t) :
    Calls Tryd.prog 44 #[.pointer (some ⟨g, 0, none⟩), .int .i64 x.n, .int .i64 x.long, .int .i64 now, nsV x.of] w fun e w' => e = .returned (.tuple #[.int .i64 t, nsV (firstS (durS up l t (t + x.long) &&& x.of) x.n), .int .i64 0]) ∧ Below w.heap.size w w' :=
  (earliest_c g up A c l now x.n x.long now x.of w (hG.ok h) hT).mono fun _ _ ⟨a, b⟩ => ⟨a.is' (wi_ask hx h1) (of_earlT ht), b⟩
theorem early_no (g : Nat) (up : NS) (A : Option Addr) (c : Nat) (l : List (Sp NS)) (now : Int) (x : Wi) (w : World) (hG : Goo now l) (h : (Own.pf g up A c l).ok w) (hT : TabW w) (hx : WiOk x) (h1 : now ≤ 1099511627776) (ht : earlT up l x.n x.long now x.of = none) :
    Calls Tryd.prog 44 #[.pointer (some ⟨g, 0, none⟩), .int .i64 x.n, .int .i64 x.long, .int .i64 now, nsV x.of] w fun e w' => e = .returned (.tuple #[.int .i64 0, nsV emptyS, .int .i64 9]) ∧ Below w.heap.size w w' :=
  (earliest_c g up A c l now x.n x.long now x.of w (hG.ok h) hT).mono fun _ _ ⟨a, b⟩ => ⟨a.not (wi_ask hx h1) ht, b⟩
/-- What the region of plan keeps. -/
def KeepS (W0 : World) (g3 q : Nat) (a b : Array Value) (W : World) : Prop := Below W0.heap.size W0 W ∧ (∀ o, W.cell? ⟨g3, o, none⟩ = a[o]?) ∧ (∀ o, W.cell? ⟨q, o, none⟩ = b[o]?)
theorem KeepS.of {W0 W : World} {g3 q : Nat} {t u : TypeId} {a b : Array Value} (h : Below W0.heap.size W0 W) (h3 : Blk W0 g3 t a) (hq : Blk W0 q u b) : Below W0.heap.size W0 W ∧ (∀ o, W.cell? ⟨g3, o, none⟩ = a[o]?) ∧ (∀ o, W.cell? ⟨q, o, none⟩ = b[o]?) :=
  ⟨h, (h3.after h).cell, (hq.after h).cell⟩
theorem put_four (w : World) (g : Nat) (a b c d : Value) : Put w ((((w.setCell ⟨g, 0, none⟩ a).setCell ⟨g, 1, none⟩ b).setCell ⟨g, 2, none⟩ c).setCell ⟨g, 3, none⟩ d) g :=
  ⟨rfl, rfl, rfl, by simp [World.setCell], fun j hj => by
    rw [Below.heap_setCell _ ⟨g, 3, none⟩ d j hj, Below.heap_setCell _ ⟨g, 2, none⟩ c j hj, Below.heap_setCell _ ⟨g, 1, none⟩ b j hj, Below.heap_setCell _ ⟨g, 0, none⟩ a j hj]⟩
set_option maxHeartbeats 32000000 in
theorem plan_yes (q g : Nat) (now : Int) (up : NS) (A : Option Addr) (c : Nat) (l : List (Sp NS)) (As : Option Addr) (cs : Nat) (S : List Pl) (Ap : Option Addr) (cp : Nat) (T : List Pl) (x : Wi) (t : Int) (w : World)
    (h : (Own.all (psO q g now up A c l As cs S Ap cp T)).ok w) (hG : Goo now l) (hT : TabW w) (hx : WiOk x) (h1 : now ≤ 1099511627776) (ht : earlT up l x.n x.long now x.of = some t) :
    Calls Tryd.prog 27 #[.pointer (some ⟨q, 0, none⟩), wiV x] w fun e w' => e = .returned (.tuple #[plV ⟨x.id, t, firstS (durS up l t (t + x.long) &&& x.of) x.n⟩, .bool true]) ∧ Below w.heap.size w w' := by
  have HQ := Lib.hid (show Blk w q 73 (psA g now As cs S Ap cp T) from h.1 0 _ rfl)
  have HP := Lib.hid (show (Own.pf g up A c l).ok w from h.1 1 _ rfl)
  have HPK := Lib.hid (fun (W : World) (hb : Below w.heap.size w W) => (Own.pf g up A c l).keep w W (fun k hk => hb.block k ((Own.pf g up A c l).lt w HP.out k hk)) HP.out)
  have HTb := Lib.hid hT
  have HEC := Lib.hid (fun (W : World) (hb : Below w.heap.size w W) => early_yes g up A c l now x t W hG (HPK.out W hb) (HTb.out.after hb) hx h1 ht)
  obtain ⟨F, hF⟩ : ∃ F, F = firstS (durS up l t (t + x.long) &&& x.of) x.n := ⟨_, rfl⟩
  rw [← hF] at HEC ⊢
  clear h hT hG hx h1 ht hF
  go_enter Tryd.func27, Tryd.ntmps27
  have HS0 := Lib.hid (Ms.nil w noB)
  go_wp2_with (first
    | (have hq := HS0; clear hq; (with_reducible refine atBox ?_); refine wpList_alloc_b rfl (some 3) rfl 68 ((wiA x)) (by kernel_rfl) ?_; intro g1 W1 hb hB hg; have HS1 := Lib.hid (HS0.out.new hb hB hg); clear hb hB hg HS0)
    | (have hq := HS1; clear hq; (with_reducible refine atAlloc ?_); refine wpList_alloc_b rfl (some 4) rfl 47 (#[.int .i64 0, .int .i64 0, .int .u64 0, .int .u64 0, .int .u64 0, .int .u64 0]) (by kernel_rfl) ?_; intro g2 W2 hb hB hg; have HS2 := Lib.hid (HS1.out.new hb hB hg); clear hb hB hg HS1))
  have HB3 := Lib.hid (HS2.out.at_ 0 rfl)
  have HBq := Lib.hid (HQ.out.after HS2.out.below)
  have HE2 := Lib.hid (fun (W : World) (hh : (Below W2.heap.size W2 W ∧ (∀ o, W.cell? ⟨g1, o, none⟩ = (wiA x)[o]?) ∧ (∀ o, W.cell? ⟨q, o, none⟩ = (psA g now As cs S Ap cp T)[o]?))) => HEC.out W (below_then HS2.out.below HS2.out.below.size hh.1))
  have HK0 := Lib.hid (show (Below W2.heap.size W2 W2.drew ∧ (∀ o, W2.drew.cell? ⟨g1, o, none⟩ = (wiA x)[o]?) ∧ (∀ o, W2.drew.cell? ⟨q, o, none⟩ = (psA g now As cs S Ap cp T)[o]?)) from KeepS.of (Below.refl _ _).drew HB3.out HBq.out)
  have HK2 := Lib.hid (fun (W X2 : World) (hh : (Below W2.heap.size W2 W ∧ (∀ o, W.cell? ⟨g1, o, none⟩ = (wiA x)[o]?) ∧ (∀ o, W.cell? ⟨q, o, none⟩ = (psA g now As cs S Ap cp T)[o]?))) (hb : Below W.heap.size W X2) => (KeepS.of (below_then hh.1 hh.1.size hb) HB3.out HBq.out : (Below W2.heap.size W2 X2 ∧ (∀ o, X2.cell? ⟨g1, o, none⟩ = (wiA x)[o]?) ∧ (∀ o, X2.cell? ⟨q, o, none⟩ = (psA g now As cs S Ap cp T)[o]?))))
  have HK4 := Lib.hid (fun (W : World) (g7 : Nat) (a b c d : Value) (hh : (Below W2.heap.size W2 W ∧ (∀ o, W.cell? ⟨g1, o, none⟩ = (wiA x)[o]?) ∧ (∀ o, W.cell? ⟨q, o, none⟩ = (psA g now As cs S Ap cp T)[o]?))) (hg : W2.heap.size ≤ g7) => (KeepS.of (below_four hh.1 hg a b c d) HB3.out HBq.out))
  have HNW := Lib.hid (fun (X5 : World) (hb : Below ((W2.alloc (.cells z4P 24)).drew).heap.size ((W2.alloc (.cells z4P 24)).drew) X5) => (show Blk X5 W2.heap.size 24 z4P from Blk.after (Blk.new W2.drew 24 z4P) hb).rules)
  go_region_held3 (fun X2 => (Below W2.heap.size W2 X2 ∧ (∀ o, X2.cell? ⟨g1, o, none⟩ = (wiA x)[o]?) ∧ (∀ o, X2.cell? ⟨q, o, none⟩ = (psA g now As cs S Ap cp T)[o]?)))
    (first | exact HK0.out | exact hS5 | exact HK2.out _ _ hS5 ((Below.refl _ _).alloc (Nat.le_refl _) _) | exact HK2.out _ _ ‹_› hb | exact HK2.out _ _ ‹_› ((Below.refl _ _).alloc (Nat.le_refl _) _) | exact HK4.out _ _ _ _ _ _ ‹_› (Nat.le_refl _) | exact HK4.out _ _ _ _ _ _ ‹_› (by have := hb.size; simp at this ⊢; omega))
    (first | ((with_reducible refine (HE2.out _ ‹_›).mono ?_); rintro e w5 ⟨rfl, hb⟩; have hS5 := HK2.out _ _ ‹_› hb; first | refine And.elim (fun n1 n23 => And.elim (fun n2 n3 => ?_) n23) (HNW.out _ hb) | skip))
  · have HS3 := Lib.hid (((HS2.out.after hS5.1).new (g := w5.heap.size) ((Below.refl _ _).alloc (Nat.le_refl _) (Obj.cells (nsA F) 24)) (Blk.new _ _ _) (Nat.le_refl _)))
    clear HS2 hS5 hb
    obtain ⟨r0a, r0b, r0c⟩ := HS3.out.rules 0 rfl
    go_wp2_with (first
      | (have hq := HS3; clear hq; (with_reducible refine atLoad ?_); refine wpList_load_at rfl 24 _ rfl (HS3.out.at_ 2 rfl) 4 (nsV F) rfl _ Tryd.underlying24 rfl (by kernel_rfl) (Nat.le_of_ble_eq_true rfl) rfl ?_)
      | (have hq := HS3; clear hq; (with_reducible refine atStore ?_); refine wpList_store_at rfl 47 _ _ rfl (HS3.out.at_ 1 rfl) (.agg #[.int .i64 x.id, .int .i64 t, .int .u64 (wn F 0 : Nat), .int .u64 (wn F 1 : Nat), .int .u64 (wn F 2 : Nat), .int .u64 (wn F 3 : Nat)]) rfl rfl (by kernel_rfl) (Nat.le_of_ble_eq_true rfl) (by kernel_rfl) ?_; intro W4 hB hP; have HS4 := Lib.hid (HS3.out.put 1 rfl (new := #[.int .i64 x.id, .int .i64 t, .int .u64 (wn F 0 : Nat), .int .u64 (wn F 1 : Nat), .int .u64 (wn F 2 : Nat), .int .u64 (wn F 3 : Nat)]) hB hP); clear hB hP HS3; clear r0a r0b r0c))
    exact post_cell_tmp (x := .bool true) rfl rfl rfl (HS4.out.at_ 1 rfl) Tryd.underlying47 rfl (by kernel_rfl) rfl ⟨rfl, HS4.out.below⟩
  · have hS6 := ((HS2.out.new (W' := (W2.alloc (.cells z4P 24)).drew) (g := W2.heap.size) (((Below.refl _ _).alloc (Nat.le_refl _) (Obj.cells z4P 24)).drew) (Blk.new W2.drew 24 z4P) (Nat.le_refl _)).after hb)
    have HS3 := Lib.hid (hS6.put 2 rfl ((hS6.at_ 2 rfl).four (.int .u64 (wn F 0 : Nat)) (.int .u64 (wn F 1 : Nat)) (.int .u64 (wn F 2 : Nat)) (.int .u64 (wn F 3 : Nat))) (put_four w5 W2.heap.size _ _ _ _))
    clear hS6
    clear HS2 hS5 hb
    obtain ⟨r0a, r0b, r0c⟩ := HS3.out.rules 0 rfl
    go_wp2_with (first
      | (have hq := HS3; clear hq; (with_reducible refine atLoad ?_); refine wpList_load_at rfl 24 _ rfl (HS3.out.at_ 2 rfl) 4 (nsV F) rfl _ Tryd.underlying24 rfl (by kernel_rfl) (Nat.le_of_ble_eq_true rfl) rfl ?_)
      | (have hq := HS3; clear hq; (with_reducible refine atStore ?_); refine wpList_store_at rfl 47 _ _ rfl (HS3.out.at_ 1 rfl) (.agg #[.int .i64 x.id, .int .i64 t, .int .u64 (wn F 0 : Nat), .int .u64 (wn F 1 : Nat), .int .u64 (wn F 2 : Nat), .int .u64 (wn F 3 : Nat)]) rfl rfl (by kernel_rfl) (Nat.le_of_ble_eq_true rfl) (by kernel_rfl) ?_; intro W4 hB hP; have HS4 := Lib.hid (HS3.out.put 1 rfl (new := #[.int .i64 x.id, .int .i64 t, .int .u64 (wn F 0 : Nat), .int .u64 (wn F 1 : Nat), .int .u64 (wn F 2 : Nat), .int .u64 (wn F 3 : Nat)]) hB hP); clear hB hP HS3; clear r0a r0b r0c))
    exact post_cell_tmp (x := .bool true) rfl rfl rfl (HS4.out.at_ 1 rfl) Tryd.underlying47 rfl (by kernel_rfl) rfl ⟨rfl, HS4.out.below⟩
set_option maxHeartbeats 32000000 in
theorem plan_no (q g : Nat) (now : Int) (up : NS) (A : Option Addr) (c : Nat) (l : List (Sp NS)) (As : Option Addr) (cs : Nat) (S : List Pl) (Ap : Option Addr) (cp : Nat) (T : List Pl) (x : Wi) (w : World)
    (h : (Own.all (psO q g now up A c l As cs S Ap cp T)).ok w) (hG : Goo now l) (hT : TabW w) (hx : WiOk x) (h1 : now ≤ 1099511627776) (ht : earlT up l x.n x.long now x.of = none) :
    Calls Tryd.prog 27 #[.pointer (some ⟨q, 0, none⟩), wiV x] w fun e w' => e = .returned (.tuple #[plV ⟨0, 0, emptyS⟩, .bool false]) ∧ Below w.heap.size w w' := by
  have HQ := Lib.hid (show Blk w q 73 (psA g now As cs S Ap cp T) from h.1 0 _ rfl)
  have HP := Lib.hid (show (Own.pf g up A c l).ok w from h.1 1 _ rfl)
  have HPK := Lib.hid (fun (W : World) (hb : Below w.heap.size w W) => (Own.pf g up A c l).keep w W (fun k hk => hb.block k ((Own.pf g up A c l).lt w HP.out k hk)) HP.out)
  have HTb := Lib.hid hT
  have HEC := Lib.hid (fun (W : World) (hb : Below w.heap.size w W) => early_no g up A c l now x W hG (HPK.out W hb) (HTb.out.after hb) hx h1 ht)
  obtain ⟨F, hF⟩ : ∃ F, F = emptyS := ⟨_, rfl⟩
  rw [← hF] at HEC
  clear h hT hG hx h1 ht hF
  go_enter Tryd.func27, Tryd.ntmps27
  have HS0 := Lib.hid (Ms.nil w noB)
  go_wp2_with (first
    | (have hq := HS0; clear hq; (with_reducible refine atBox ?_); refine wpList_alloc_b rfl (some 3) rfl 68 ((wiA x)) (by kernel_rfl) ?_; intro g1 W1 hb hB hg; have HS1 := Lib.hid (HS0.out.new hb hB hg); clear hb hB hg HS0)
    | (have hq := HS1; clear hq; (with_reducible refine atAlloc ?_); refine wpList_alloc_b rfl (some 4) rfl 47 (#[.int .i64 0, .int .i64 0, .int .u64 0, .int .u64 0, .int .u64 0, .int .u64 0]) (by kernel_rfl) ?_; intro g2 W2 hb hB hg; have HS2 := Lib.hid (HS1.out.new hb hB hg); clear hb hB hg HS1))
  have HB3 := Lib.hid (HS2.out.at_ 0 rfl)
  have HBq := Lib.hid (HQ.out.after HS2.out.below)
  have HE2 := Lib.hid (fun (W : World) (hh : (Below W2.heap.size W2 W ∧ (∀ o, W.cell? ⟨g1, o, none⟩ = (wiA x)[o]?) ∧ (∀ o, W.cell? ⟨q, o, none⟩ = (psA g now As cs S Ap cp T)[o]?))) => HEC.out W (below_then HS2.out.below HS2.out.below.size hh.1))
  have HK0 := Lib.hid (show (Below W2.heap.size W2 W2.drew ∧ (∀ o, W2.drew.cell? ⟨g1, o, none⟩ = (wiA x)[o]?) ∧ (∀ o, W2.drew.cell? ⟨q, o, none⟩ = (psA g now As cs S Ap cp T)[o]?)) from KeepS.of (Below.refl _ _).drew HB3.out HBq.out)
  have HK2 := Lib.hid (fun (W X2 : World) (hh : (Below W2.heap.size W2 W ∧ (∀ o, W.cell? ⟨g1, o, none⟩ = (wiA x)[o]?) ∧ (∀ o, W.cell? ⟨q, o, none⟩ = (psA g now As cs S Ap cp T)[o]?))) (hb : Below W.heap.size W X2) => (KeepS.of (below_then hh.1 hh.1.size hb) HB3.out HBq.out : (Below W2.heap.size W2 X2 ∧ (∀ o, X2.cell? ⟨g1, o, none⟩ = (wiA x)[o]?) ∧ (∀ o, X2.cell? ⟨q, o, none⟩ = (psA g now As cs S Ap cp T)[o]?))))
  have HK4 := Lib.hid (fun (W : World) (g7 : Nat) (a b c d : Value) (hh : (Below W2.heap.size W2 W ∧ (∀ o, W.cell? ⟨g1, o, none⟩ = (wiA x)[o]?) ∧ (∀ o, W.cell? ⟨q, o, none⟩ = (psA g now As cs S Ap cp T)[o]?))) (hg : W2.heap.size ≤ g7) => (KeepS.of (below_four hh.1 hg a b c d) HB3.out HBq.out))
  have HNW := Lib.hid (fun (X5 : World) (hb : Below ((W2.alloc (.cells z4P 24)).drew).heap.size ((W2.alloc (.cells z4P 24)).drew) X5) => (show Blk X5 W2.heap.size 24 z4P from Blk.after (Blk.new W2.drew 24 z4P) hb).rules)
  go_region_held3 (fun X2 => (Below W2.heap.size W2 X2 ∧ (∀ o, X2.cell? ⟨g1, o, none⟩ = (wiA x)[o]?) ∧ (∀ o, X2.cell? ⟨q, o, none⟩ = (psA g now As cs S Ap cp T)[o]?)))
    (first | exact HK0.out | exact hS5 | exact HK2.out _ _ hS5 ((Below.refl _ _).alloc (Nat.le_refl _) _) | exact HK2.out _ _ ‹_› hb | exact HK2.out _ _ ‹_› ((Below.refl _ _).alloc (Nat.le_refl _) _) | exact HK4.out _ _ _ _ _ _ ‹_› (Nat.le_refl _) | exact HK4.out _ _ _ _ _ _ ‹_› (by have := hb.size; simp at this ⊢; omega))
    (first | ((with_reducible refine (HE2.out _ ‹_›).mono ?_); rintro e w5 ⟨rfl, hb⟩; have hS5 := HK2.out _ _ ‹_› hb; first | refine And.elim (fun n1 n23 => And.elim (fun n2 n3 => ?_) n23) (HNW.out _ hb) | skip))
  · have HS3 := Lib.hid (((HS2.out.after hS5.1).new (g := w5.heap.size) ((Below.refl _ _).alloc (Nat.le_refl _) (Obj.cells (nsA F) 24)) (Blk.new _ _ _) (Nat.le_refl _)))
    clear HS2 hS5 hb
    go_wp2_with (have hq := HS3; clear hq; (with_reducible refine atStore ?_); refine wpList_store_at rfl 47 _ _ rfl (HS3.out.at_ 1 rfl) (.agg #[.int .i64 0, .int .i64 0, .int .u64 0, .int .u64 0, .int .u64 0, .int .u64 0]) rfl rfl (by kernel_rfl) (Nat.le_of_ble_eq_true rfl) (by kernel_rfl) ?_; intro W4 hB hP; have HS4 := Lib.hid (HS3.out.put 1 rfl (new := #[.int .i64 0, .int .i64 0, .int .u64 0, .int .u64 0, .int .u64 0, .int .u64 0]) hB hP); clear hB hP HS3)
    exact post_cell_tmp (x := .bool false) rfl rfl rfl (HS4.out.at_ 1 rfl) Tryd.underlying47 rfl (by kernel_rfl) rfl ⟨rfl, HS4.out.below⟩
  · have hS6 := ((HS2.out.new (W' := (W2.alloc (.cells z4P 24)).drew) (g := W2.heap.size) (((Below.refl _ _).alloc (Nat.le_refl _) (Obj.cells z4P 24)).drew) (Blk.new W2.drew 24 z4P) (Nat.le_refl _)).after hb)
    have HS3 := Lib.hid (hS6.put 2 rfl ((hS6.at_ 2 rfl).four (.int .u64 (wn F 0 : Nat)) (.int .u64 (wn F 1 : Nat)) (.int .u64 (wn F 2 : Nat)) (.int .u64 (wn F 3 : Nat))) (put_four w5 W2.heap.size _ _ _ _))
    clear hS6
    clear HS2 hS5 hb
    go_wp2_with (have hq := HS3; clear hq; (with_reducible refine atStore ?_); refine wpList_store_at rfl 47 _ _ rfl (HS3.out.at_ 1 rfl) (.agg #[.int .i64 0, .int .i64 0, .int .u64 0, .int .u64 0, .int .u64 0, .int .u64 0]) rfl rfl (by kernel_rfl) (Nat.le_of_ble_eq_true rfl) (by kernel_rfl) ?_; intro W4 hB hP; have HS4 := Lib.hid (HS3.out.put 1 rfl (new := #[.int .i64 0, .int .i64 0, .int .u64 0, .int .u64 0, .int .u64 0, .int .u64 0]) hB hP); clear hB hP HS3)
    exact post_cell_tmp (x := .bool false) rfl rfl rfl (HS4.out.at_ 1 rfl) Tryd.underlying47 rfl (by kernel_rfl) rfl ⟨rfl, HS4.out.below⟩
theorem plan_c (q g : Nat) (now : Int) (up : NS) (A : Option Addr) (c : Nat) (l : List (Sp NS)) (As : Option Addr) (cs : Nat) (S : List Pl) (Ap : Option Addr) (cp : Nat) (T : List Pl) (x : Wi) (w : World)
    (h : (Own.all (psO q g now up A c l As cs S Ap cp T)).ok w) (hG : Goo now l) (hT : TabW w) (hx : WiOk x) (h1 : now ≤ 1099511627776) :
    Calls Tryd.prog 27 #[.pointer (some ⟨q, 0, none⟩), wiV x] w fun e w' => e = .returned (.tuple #[plV ((planO up l now x).getD ⟨0, 0, emptyS⟩), .bool (planO up l now x).isSome]) ∧ Below w.heap.size w w' := by
  cases ht : earlT up l x.n x.long now x.of with
  | none =>
    have := plan_no q g now up A c l As cs S Ap cp T x w h hG hT hx h1 ht
    unfold planO
    rw [ht]
    exact this
  | some t =>
    have := plan_yes q g now up A c l As cs S Ap cp T x t w h hG hT hx h1 ht
    unfold planO
    rw [ht]
    exact this
end Go.Proofs.YtkgphbjneaagoaaDoor
