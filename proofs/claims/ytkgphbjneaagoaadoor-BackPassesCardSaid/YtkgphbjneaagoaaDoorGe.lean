/- Back: rule. -/
import Derived.Test.YtkgphbjneaagoaaDoorGd
set_option linter.unusedVariables false
set_option maxRecDepth 100000
namespace Go.Proofs.YtkgphbjneaagoaaDoor
open Go.RowKit Go.Sort

set_option maxHeartbeats 8000000 in
theorem rule_c (q g : Nat) (now : Int) (up : NS) (A : Option Addr) (c : Nat) (l : List (Sp NS)) (As : Option Addr) (cs : Nat) (S : List Pl) (Ap : Option Addr) (cp : Nat) (T : List Pl) (mode : Int) (w : World)
    (h : (Own.all (psO q g now up A c l As cs S Ap cp T)).ok w) (hT : T.length ≤ 1024) :
    Calls Tryd.prog 29 #[.pointer (some ⟨q, 0, none⟩), .int .i64 mode] w fun e w' => e = .returned (.tuple #[.bool (if mode = 0 then false else keeps mode T), .bool (decide (mode = 0))]) ∧ Below w.heap.size w w' := by
  have HQ := Lib.hid (show Blk w q 73 (psA g now As cs S Ap cp T) from h.1 0 _ rfl)
  clear h
  go_enter Tryd.func29, Tryd.ntmps29
  have HS0 := Lib.hid (Ms.nil w noB)
  have HBq := Lib.hid (HQ.out.after HS0.out.below)
  by_cases h0 : mode = 0
  · subst h0
    go_wp2_with fail
    go_ret2
    exact ⟨by simp, HS0.out.below⟩
  · by_cases h1 : mode = 1
    · subst h1
      obtain ⟨r0a, r0b, r0c⟩ := HQ.out.rules
      have hTI : (T.length : Int) ≤ 1024 := by omega
      go_wp2_with fail
      go_ret2
      exact ⟨by simp [keeps]; cases T <;> simp <;> omega, HS0.out.below⟩
    · go_wp2_with fail
      go_ret2
      exact ⟨by simp [keeps, h1], HS0.out.below⟩
end Go.Proofs.YtkgphbjneaagoaaDoor
