/- Safe: the probe; the laws SafePart, SafeHalves, SafeBack, SafeSums: their walks. -/
import Derived.Test.YthoagfoekopioaaY8
import Derived.Test.YthoagfoekopioaaY5
import Derived.Test.YthoagfoekopioaaQt
set_option linter.unusedVariables false
namespace Go.Proofs.Ythoagfoekopioaa
open Go.RowKit Go.Sort

theorem same_below {P : Program} {f : FuncId} {args : Array Value} {w : World} {v : Value} (h : Calls P f args w fun e w' => e = .returned v ∧ w = w') : Calls P f args w fun e w' => e = .returned v ∧ Below w.heap.size w w' :=
  h.mono fun e w' ⟨h1, h2⟩ => ⟨h1, h2 ▸ Below.refl _ _⟩
theorem bthen {B : Nat} {w w1 w2 : World} (h : Below B w w1) (hB : B ≤ w1.heap.size) (k : Below w1.heap.size w1 w2) : Below B w w2 := h.trans (k.mono hB)
theorem inI_lit {x : Int} (h : decide (-9223372036854775808 ≤ x) && decide (x ≤ 9223372036854775807) = true) : inI x := by simpa [inI] using h
theorem pv1 : shareV 1 3 = 1431655765 := by decide +kernel
theorem pv2 : shareE 1 3 = 0 := by decide +kernel
theorem pv3 : shofV 2147483648 7 = 3 := by decide +kernel
theorem pv4 : shofE 2147483648 7 = 0 := by decide +kernel
theorem pv5 : okV (9223372036854775807 + 1) = 0 := by decide +kernel
theorem pv6 : okE (9223372036854775807 + 1) = 5 := by decide +kernel
theorem pv7 : halvesV (-5) 1 = -2 := by decide +kernel
theorem alive02 (w : World) : Calls Try.prog 9 #[] w fun e w' => e = .returned (.bool true) ∧ Below w.heap.size w w' := by
  have c1 := share_c 1 3 (by unfold inI; omega) (by unfold inI; omega)
  have c2 := sof_c 2147483648 7 (by unfold inI; omega) (by unfold inI; omega)
  have c3 := add_c 9223372036854775807 1 (by unfold inI; omega) (by unfold inI; omega)
  have c4 := halves_c (-5) 1 (by unfold inI; omega)
  rw [pv1, pv2] at c1
  rw [pv3, pv4] at c2
  rw [pv5, pv6] at c3
  rw [pv7] at c4
  have C1 := Lib.hid c1
  have C2 := Lib.hid c2
  have C3 := Lib.hid c3
  have C4 := Lib.hid c4
  clear c1 c2 c3 c4
  go_enter Try.func9, Try.ntmps9
  go_wp2_with fail
  refine (C1.out _).mono ?_
  rintro e w1 ⟨rfl, hb⟩
  have HB := Lib.hid hb
  clear hb
  go_wp2_with fail
  refine (C2.out _).mono ?_
  rintro e w' ⟨rfl, rfl⟩
  go_wp2_with fail
  refine (C3.out _).mono ?_
  rintro e w' ⟨rfl, rfl⟩
  go_wp2_with fail
  refine (C4.out _).mono ?_
  rintro e w' ⟨rfl, rfl⟩
  go_wp2
  go_ret
  exact ⟨rfl, HB.out⟩

theorem safePart_w (a b : Int) (ha : 0 ≤ a ∧ a ≤ 4294967295) (hb : 0 ≤ b ∧ b ≤ 4294967295) (w : World) : Calls Try.prog 3 #[.int .u32 a, .int .u32 b] w fun e w' => e = .returned (.bool true) ∧ Below w.heap.size w w' := by
  obtain ⟨p, hp⟩ : ∃ p, p = a / 2 := ⟨_, rfl⟩
  have hp2 : a / 2 = p := hp.symm
  have hpb : 0 ≤ p ∧ p ≤ 2147483647 := by omega
  clear hp
  by_cases h0 : b = 0
  · subst h0
    go_enter Try.func3, Try.ntmps3
    go_wp2_with fail
    refine (alive02 _).mono ?_
    rintro e w1 ⟨rfl, hbl⟩
    go_wp2
    go_ret
    exact ⟨rfl, hbl⟩
  · have hb1 : 1 ≤ b := by omega
    obtain ⟨l1, l2, l3, l4⟩ := law_part p b hpb.1 (by omega) hb1 (by omega)
    have c1 := share_c p b (by unfold inI; omega) (by unfold inI; omega)
    have hv : inI (shareV p b) := by
      unfold shareV
      split
      · unfold inI; omega
      · exact okV_in _
    have c2 := sof_c (shareV p b) b hv (by unfold inI; omega)
    rw [l1] at c1
    rw [l2] at c2
    obtain ⟨n, hn⟩ : ∃ n, n = shofV (shareV p b) b := ⟨_, rfl⟩
    rw [← hn] at c2 l3 l4
    have hnb : 0 ≤ n + 1 := by omega
    generalize shareV p b = sv at *
    have C1 := Lib.hid c1
    have C2 := Lib.hid c2
    have hbz : (b == 0) = false := by simp; omega
    clear c1 c2 hn hv l1 l2 h0
    go_enter Try.func3, Try.ntmps3
    go_wp2_with fail
    refine (C1.out _).mono ?_
    rintro e w1 ⟨rfl, hbl⟩
    have HB := Lib.hid hbl
    clear hbl
    go_wp2_with fail
    refine (C2.out _).mono ?_
    rintro e w' ⟨rfl, rfl⟩
    go_wp2_with fail
    refine (alive02 _).mono ?_
    rintro e w2 ⟨rfl, hbl⟩
    have HB2 := Lib.hid (bthen HB.out HB.out.size hbl)
    clear hbl
    go_wp2
    go_ret
    exact ⟨rfl, HB2.out⟩
end Go.Proofs.Ythoagfoekopioaa
