/- Share: short; Users. -/
import Derived.Test.YtflgnlpippjhcaaIt
import Derived.Test.YtflgnlpippjhcaaU7
import Derived.Test.YtflgnlpippjhcaaU8
import Derived.Sort.KeysCollected
set_option linter.unusedVariables false
set_option maxRecDepth 100000
namespace Go.Proofs.Ytflgnlpippjhcaa
open Go.RowKit Go.Sort Go.Maps

theorem short_c (A : Option Addr) (n c : Nat) (w : World) (h1 : n ≤ c) (h2 : c ≤ maxLen) :
    Calls Try.prog 13 #[.slice A n c] w fun e w' => e = .returned (.slice A (min n 300) c) ∧ w = w' := by
  simp only [maxLen] at h2
  have h1 : (min n 300 : Nat) ≤ c := by omega
  have h2 : (n : Int) ≤ 9223372036854775807 := by omega
  have h3 : ((min n 300 : Nat) : Int) = min (n : Int) 300 := by omega
  have h4 : (c : Int) ≤ 9223372036854775807 := by omega
  have h5 : min (n : Int) 300 ≤ (c : Int) := by omega
  have h6 : (min (n : Int) 300).toNat = min n 300 := by omega
  go_enter Try.func13, Try.ntmps13
  go_wp2_with fail
  go_ret
  exact ⟨rfl, rfl⟩
abbrev nmL (n : Nm) : List Value := [str n]
abbrev names (L : Led) : List Nm := L.map (·.1)
/-- A row of names that is owned. -/
abbrev nmR (A : Option Addr) (c : Nat) (ns : List Nm) : Own := rowS 9 1 nmL A c ns
theorem nm_flat (ns : List Nm) : ns.map encStr = ns.flatMap nmL := by
  induction ns with
  | nil => rfl
  | cons x r ih => rw [List.map_cons, List.flatMap_cons, ih]; rfl
theorem nmR_of {w W W' : World} {base : Nat} {v : Value} {ns : List Nm} (h : W'.ownsRow base 9 1 v ns.length (ns.map encStr)) (hb : Below w.heap.size w W) (hb2 : Below W.heap.size W W') (h0 : W.heap.size ≤ base) : ∃ A c, v = .slice A ns.length c ∧ Ms w noB [nmR A c ns] W' := by
  have key : ∃ A c, v = .slice A ns.length c := by
    rcases h.2 with ⟨e, h1⟩ | ⟨g, cap, cur, e, _⟩
    · exact ⟨none, 0, by rw [e, h1]⟩
    · exact ⟨_, _, e⟩
  obtain ⟨A, c, rfl⟩ := key
  rw [nm_flat] at h
  refine ⟨A, c, rfl, ?_⟩
  have hO : (nmR A c ns).ok W' := ⟨h.1, h.2.imp id fun ⟨g, cap, cur, e, _, r⟩ => ⟨g, cap, cur, e, Nat.zero_le _, r⟩⟩
  refine ((Ms.nil w noB).after hb).add hb2 hO (fun k hk => ?_)
  rcases h.2 with ⟨e, _⟩ | ⟨g, cap, cur, e, hge, _⟩
  · injection e with e1 _ _
    subst e1
    exact nomatch (show (none : Option Nat) = some k from hk)
  · injection e with e1 _ _
    subst e1
    have : some g = some k := hk
    cases this
    omega
theorem nmR_read {w : World} {A : Option Addr} {c : Nat} {L : Led} (h : (nmR A c (names L)).ok w) : RdS 1 nmL w A L.length (names L) := by
  have := rowS_read (c := nmL) (fun _ => rfl) h
  rwa [List.length_map] at this
theorem names_of {L : Led} {ss : List Nm} (hL : Ris L) (h : ss.Perm (strKeys (ledD L))) : ss.mergeSort (fun x y => decide (x ≤ y)) = names L := by
  have h1 : ss.mergeSort leB = (names L).mergeSort leB := mergeSort_of_perm (h.trans (by rw [led_keys]))
  exact h1.trans (names_sorted hL)
theorem users_c (g b : Nat) (half : Int) (L : Led) (w : World) (hR : LdR w g b half L) : Calls Try.prog 23 #[.pointer (some ⟨g, 0, none⟩)] w fun e w' => ∃ A c, e = .returned (.slice A L.length c) ∧ Ms w noB [nmR A c (names L)] w' := by
  have HR := Lib.hid hR
  obtain ⟨ob, hob, hst⟩ := hR.start
  have HB := Lib.hid hR.blk
  have HO := Lib.hid hob
  have HOK := Lib.hid hR.ok
  have HST := Lib.hid hst
  clear hR hob hst
  go_enter Try.func23, Try.ntmps23
  have HS0 := Lib.hid (HST.out)
  clear HST
  go_wp2_with fail
  refine (ok_c g b half L _ (HS0.out.ldR 0 1 rfl rfl HOK.out)).mono ?_
  rintro e W1 ⟨rfl, hb⟩
  have HS1 := Lib.hid (HS0.out.after hb)
  clear hb HS0
  have HX := Lib.hid (HS1.out.ldR 0 1 rfl rfl HOK.out)
  obtain ⟨r0a, r0b, r0c⟩ := HS1.out.rules 0 rfl
  go_wp2_with fail
  refine (callsIn_wide.1 (Try.maps_Keys_41 (some b) _)).mono ?_
  rintro e w' ⟨rfl, rfl⟩
  clear r0a r0b r0c
  go_wp2_with fail
  refine (callsIn_wide.1 (Try.slices_Sorted_keys_40_41 b L.length (ledD L) accE _ HX.out.mp (by rw [led_size]; have := HOK.out.len; simp only [maxLen]; omega) (by rw [led_size]; have := HOK.out.len; omega))).mono ?_
  rintro e W3 ⟨v, ss, rfl, hS, hrow, hnil, hb⟩
  clear hnil
  have hl : ss.length = (names L).length := by rw [hS.length_eq, led_keys]
  rw [names_of HOK.out.ris hS, hl] at hrow
  obtain ⟨A, c, rfl, hM⟩ := nmR_of hrow ((HS1.out.stillR HB.out HO.out).alloc HS1.out.turn.size _) hb (Nat.le_refl _)
  have HM := Lib.hid hM
  clear hM hrow hb hS
  go_wp2_with fail
  go_ret
  exact ⟨A, c, rfl, HM.out⟩
end Go.Proofs.Ytflgnlpippjhcaa
