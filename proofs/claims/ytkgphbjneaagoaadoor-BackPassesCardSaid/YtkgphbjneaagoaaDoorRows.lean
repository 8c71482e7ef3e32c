/-
  NARROWER THAN 'FOR EVERY INPUT', by the rows' own cells (each row's printed sentence says how): BackPasses: laid · BackApart: laid · BackAlone: laid · BackAll: laid · BackHeads: laid · BackHolds: laid.
  DERIVED. THE GIVEN ROWS OF THIS SEAT. 6 by the template 'for every input the law returns true; each argument reads behind the call as it read before'; 0 by the template 'total and deterministic' (their statements: YtkgphbjneaagoaaDoorTotals.lean).
  GIVEN WITH THE SEED: the statements are not yours to turn. If you find one false, say at which input.
  Laid BY PROGRAM, IN A SANDBOX (cutbox-rows.mjs): the forced cells as the released guide's own fill.sh prints them over the translation c9a5b096ed81a2c1… (all of the seat's roots in one cut). By AI agents, Wed Nov 11 2026. No macro, syntax, notation, axiom, sorry.
-/
import Derived.Test.YtkgphbjneaagoaaDoorChecked
import GoSem.Claim
import GoSem.ClaimJoined
import GoSem.ClaimMapViews
import Derived.JoinedTies
import Derived.KernelRfl
namespace Go.Proofs.YtkgphbjneaagoaaDoor
/- THE CELL 'sum', in the pinned program and in every row, IS THE sha256 OF THE DUMP (.gsa) THAT YtkgphbjneaagoaaDoorProg.lean LOADS. Nothing in Lean hashes anything: it is a label: what it is worth is what the hold of that sum in a sandbox is worth. -/
noncomputable def Tryd.pinned : Pinned := { name := "ytkgphbjneaagoaadoor", sum := "c9a5b096ed81a2c104aad7c41bff566d1571732674776a4fb040502df7c37db0", checked := Tryd.checked }
namespace Rows
def none {H : Type} : Left H := { results := [], args := [] }

/- WHAT THE LISTED PACKAGE-LEVEL VARIABLES READ AS WHEN THE CALL BEGINS. Each datum BY PROGRAM (the guide's laid-datum.mjs) off the statement by which the dump's own 'gosem.cut.vars' lays the variable. In a bare row this is a premise. The card (YtkgphbjneaagoaaDoorCards.lean) ties it to the program's text. -/
def laid_math_bits_deBruijn64tab {H : Type} : DataW H := .agg [.lit (.int .u8 0), .lit (.int .u8 1), .lit (.int .u8 56), .lit (.int .u8 2), .lit (.int .u8 57), .lit (.int .u8 49), .lit (.int .u8 28), .lit (.int .u8 3), .lit (.int .u8 61), .lit (.int .u8 58), .lit (.int .u8 42), .lit (.int .u8 50), .lit (.int .u8 38), .lit (.int .u8 29), .lit (.int .u8 17), .lit (.int .u8 4), .lit (.int .u8 62), .lit (.int .u8 47), .lit (.int .u8 59), .lit (.int .u8 36), .lit (.int .u8 45), .lit (.int .u8 43), .lit (.int .u8 51), .lit (.int .u8 22), .lit (.int .u8 53), .lit (.int .u8 39), .lit (.int .u8 33), .lit (.int .u8 30), .lit (.int .u8 24), .lit (.int .u8 18), .lit (.int .u8 12), .lit (.int .u8 5), .lit (.int .u8 63), .lit (.int .u8 55), .lit (.int .u8 48), .lit (.int .u8 27), .lit (.int .u8 60), .lit (.int .u8 41), .lit (.int .u8 37), .lit (.int .u8 16), .lit (.int .u8 46), .lit (.int .u8 35), .lit (.int .u8 44), .lit (.int .u8 21), .lit (.int .u8 52), .lit (.int .u8 32), .lit (.int .u8 23), .lit (.int .u8 11), .lit (.int .u8 54), .lit (.int .u8 26), .lit (.int .u8 40), .lit (.int .u8 15), .lit (.int .u8 34), .lit (.int .u8 20), .lit (.int .u8 31), .lit (.int .u8 10), .lit (.int .u8 25), .lit (.int .u8 14), .lit (.int .u8 19), .lit (.int .u8 9), .lit (.int .u8 13), .lit (.int .u8 8), .lit (.int .u8 7), .lit (.int .u8 6)]

/-- 'marlinspikelaw18.BackPasses': WHATEVER THE INPUT: true; the input reads as it did. -/
def backPassesSpec : ChangeSpec := { name := "backPasses", fn := fun _ => fun
  | [d1, d2] => { results := [.lit (.bool true)], args := [d1, d2] }
  | _ => none }
def backPassesRow : OpenClaim := { program := "ytkgphbjneaagoaadoor", sum := "c9a5b096ed81a2c104aad7c41bff566d1571732674776a4fb040502df7c37db0", func := "marlinspike/marlinspikelaw18.BackPasses", spec := "backPasses", unfollowed := true, recurses := true, named := ["math/bits.deBruijn64tab"], apart := false, laid := [("math/bits.deBruijn64tab", laid_math_bits_deBruijn64tab)] }
def BackPassesSaid : Prop := backPassesRow.holds Tryd.pinned (OpenSpec.ofChange backPassesSpec)

/-- ITS FALSE NEIGHBOUR: 'it returns false'. Refute it at one input. -/
def backPassesWrong : ChangeSpec := { name := "backPasses", fn := fun _ => fun
  | [d1, d2] => { results := [.lit (.bool false)], args := [d1, d2] }
  | _ => none }
def BackPassesWrongFalsely : Prop := backPassesRow.holds Tryd.pinned (OpenSpec.ofChange backPassesWrong)

/-- 'marlinspikelaw18.BackApart': WHATEVER THE INPUT: true; the input reads as it did. -/
def backApartSpec : ChangeSpec := { name := "backApart", fn := fun _ => fun
  | [d1, d2] => { results := [.lit (.bool true)], args := [d1, d2] }
  | _ => none }
def backApartRow : OpenClaim := { program := "ytkgphbjneaagoaadoor", sum := "c9a5b096ed81a2c104aad7c41bff566d1571732674776a4fb040502df7c37db0", func := "marlinspike/marlinspikelaw18.BackApart", spec := "backApart", unfollowed := true, recurses := true, named := ["math/bits.deBruijn64tab"], apart := false, laid := [("math/bits.deBruijn64tab", laid_math_bits_deBruijn64tab)] }
def BackApartSaid : Prop := backApartRow.holds Tryd.pinned (OpenSpec.ofChange backApartSpec)

/-- ITS FALSE NEIGHBOUR: 'it returns false'. Refute it at one input. -/
def backApartWrong : ChangeSpec := { name := "backApart", fn := fun _ => fun
  | [d1, d2] => { results := [.lit (.bool false)], args := [d1, d2] }
  | _ => none }
def BackApartWrongFalsely : Prop := backApartRow.holds Tryd.pinned (OpenSpec.ofChange backApartWrong)

/-- 'marlinspikelaw18.BackAlone': WHATEVER THE INPUT: true; the input reads as it did. -/
def backAloneSpec : ChangeSpec := { name := "backAlone", fn := fun _ => fun
  | [d1, d2] => { results := [.lit (.bool true)], args := [d1, d2] }
  | _ => none }
def backAloneRow : OpenClaim := { program := "ytkgphbjneaagoaadoor", sum := "c9a5b096ed81a2c104aad7c41bff566d1571732674776a4fb040502df7c37db0", func := "marlinspike/marlinspikelaw18.BackAlone", spec := "backAlone", unfollowed := true, recurses := true, named := ["math/bits.deBruijn64tab"], apart := false, laid := [("math/bits.deBruijn64tab", laid_math_bits_deBruijn64tab)] }
def BackAloneSaid : Prop := backAloneRow.holds Tryd.pinned (OpenSpec.ofChange backAloneSpec)

/-- ITS FALSE NEIGHBOUR: 'it returns false'. Refute it at one input. -/
def backAloneWrong : ChangeSpec := { name := "backAlone", fn := fun _ => fun
  | [d1, d2] => { results := [.lit (.bool false)], args := [d1, d2] }
  | _ => none }
def BackAloneWrongFalsely : Prop := backAloneRow.holds Tryd.pinned (OpenSpec.ofChange backAloneWrong)

/-- 'marlinspikelaw18.BackAll': WHATEVER THE INPUT: true; the input reads as it did. -/
def backAllSpec : ChangeSpec := { name := "backAll", fn := fun _ => fun
  | [d] => { results := [.lit (.bool true)], args := [d] }
  | _ => none }
def backAllRow : OpenClaim := { program := "ytkgphbjneaagoaadoor", sum := "c9a5b096ed81a2c104aad7c41bff566d1571732674776a4fb040502df7c37db0", func := "marlinspike/marlinspikelaw18.BackAll", spec := "backAll", unfollowed := true, recurses := true, named := ["math/bits.deBruijn64tab"], apart := false, laid := [("math/bits.deBruijn64tab", laid_math_bits_deBruijn64tab)] }
def BackAllSaid : Prop := backAllRow.holds Tryd.pinned (OpenSpec.ofChange backAllSpec)

/-- ITS FALSE NEIGHBOUR: 'it returns false'. Refute it at one input. -/
def backAllWrong : ChangeSpec := { name := "backAll", fn := fun _ => fun
  | [d] => { results := [.lit (.bool false)], args := [d] }
  | _ => none }
def BackAllWrongFalsely : Prop := backAllRow.holds Tryd.pinned (OpenSpec.ofChange backAllWrong)

/-- 'marlinspikelaw18.BackHeads': WHATEVER THE INPUT: true; the input reads as it did. -/
def backHeadsSpec : ChangeSpec := { name := "backHeads", fn := fun _ => fun
  | [d] => { results := [.lit (.bool true)], args := [d] }
  | _ => none }
def backHeadsRow : OpenClaim := { program := "ytkgphbjneaagoaadoor", sum := "c9a5b096ed81a2c104aad7c41bff566d1571732674776a4fb040502df7c37db0", func := "marlinspike/marlinspikelaw18.BackHeads", spec := "backHeads", unfollowed := true, recurses := true, named := ["math/bits.deBruijn64tab"], apart := false, laid := [("math/bits.deBruijn64tab", laid_math_bits_deBruijn64tab)] }
def BackHeadsSaid : Prop := backHeadsRow.holds Tryd.pinned (OpenSpec.ofChange backHeadsSpec)

/-- ITS FALSE NEIGHBOUR: 'it returns false'. Refute it at one input. -/
def backHeadsWrong : ChangeSpec := { name := "backHeads", fn := fun _ => fun
  | [d] => { results := [.lit (.bool false)], args := [d] }
  | _ => none }
def BackHeadsWrongFalsely : Prop := backHeadsRow.holds Tryd.pinned (OpenSpec.ofChange backHeadsWrong)

/-- 'marlinspikelaw18.BackHolds': WHATEVER THE INPUT: true; the input reads as it did. -/
def backHoldsSpec : ChangeSpec := { name := "backHolds", fn := fun _ => fun
  | [d1, d2] => { results := [.lit (.bool true)], args := [d1, d2] }
  | _ => none }
def backHoldsRow : OpenClaim := { program := "ytkgphbjneaagoaadoor", sum := "c9a5b096ed81a2c104aad7c41bff566d1571732674776a4fb040502df7c37db0", func := "marlinspike/marlinspikelaw18.BackHolds", spec := "backHolds", unfollowed := true, recurses := true, named := ["math/bits.deBruijn64tab"], apart := false, laid := [("math/bits.deBruijn64tab", laid_math_bits_deBruijn64tab)] }
def BackHoldsSaid : Prop := backHoldsRow.holds Tryd.pinned (OpenSpec.ofChange backHoldsSpec)

/-- ITS FALSE NEIGHBOUR: 'it returns false'. Refute it at one input. -/
def backHoldsWrong : ChangeSpec := { name := "backHolds", fn := fun _ => fun
  | [d1, d2] => { results := [.lit (.bool false)], args := [d1, d2] }
  | _ => none }
def BackHoldsWrongFalsely : Prop := backHoldsRow.holds Tryd.pinned (OpenSpec.ofChange backHoldsWrong)

/- THE SECOND FORM. 'bulk': how many values and letters a reading holds, each counted each time it is reached (what is shared counts as often as it is met; a slice's spare places count too). A statement '..UptoSaid' is the law's where the arguments, and the package variables that the reading takes, are together of bulk at most 1048576: NARROWER than '..Said'. Prove '..Said' where nothing that the law and all that it calls make is longer than what came in: it says more and counts as full. Else prove '..UptoSaid'. A law counts once. -/
mutual
def uptoBulk {H : Type} : DataW H → Nat
  | .lit (.string bytes) => bytes.length + 1
  | .lit _ => 1
  | .nil => 1
  | .ptr d => uptoBulk d + 1
  | .slice elems spare => uptoBulkAll elems + uptoBulkAll spare + 1
  | .agg parts => uptoBulkAll parts + 1
  | .iface _ d => uptoBulk d + 1
  | .map entries => uptoBulkEntries entries + 1
  | .held _ => 1
def uptoBulkAll {H : Type} : List (DataW H) → Nat
  | [] => 0
  | d :: r => uptoBulk d + uptoBulkAll r
def uptoBulkEntries {H : Type} : List (Lit × DataW H) → Nat
  | [] => 0
  | x :: r => uptoBulkEntry x + uptoBulkEntries r
def uptoBulkEntry {H : Type} : Lit × DataW H → Nat
  | (.string bytes, d) => bytes.length + uptoBulk d + 1
  | (_, d) => uptoBulk d + 1
 end
def uptoSmall : (H : Type) → List (DataW H) → Bool := fun _ ds => decide (uptoBulkAll ds ≤ 1048576)
def OpenSpec.upto (s : _root_.Go.ChangeSpec) : _root_.Go.OpenSpec := { _root_.Go.OpenSpec.ofChange s with cond := some uptoSmall }

/-- 'marlinspikelaw18.BackPasses', WHERE WHAT IT READS IS OF BULK AT MOST 1048576: true; the input reads as it did. -/
def backPassesUptoRow : OpenClaim := { program := "ytkgphbjneaagoaadoor", sum := "c9a5b096ed81a2c104aad7c41bff566d1571732674776a4fb040502df7c37db0", func := "marlinspike/marlinspikelaw18.BackPasses", spec := "backPasses", unfollowed := true, recurses := true, named := ["math/bits.deBruijn64tab"], apart := false, laid := [("math/bits.deBruijn64tab", laid_math_bits_deBruijn64tab)], narrowed := true }
def BackPassesUptoSaid : Prop := backPassesUptoRow.holds Tryd.pinned (OpenSpec.upto backPassesSpec)

/-- 'marlinspikelaw18.BackApart', WHERE WHAT IT READS IS OF BULK AT MOST 1048576: true; the input reads as it did. -/
def backApartUptoRow : OpenClaim := { program := "ytkgphbjneaagoaadoor", sum := "c9a5b096ed81a2c104aad7c41bff566d1571732674776a4fb040502df7c37db0", func := "marlinspike/marlinspikelaw18.BackApart", spec := "backApart", unfollowed := true, recurses := true, named := ["math/bits.deBruijn64tab"], apart := false, laid := [("math/bits.deBruijn64tab", laid_math_bits_deBruijn64tab)], narrowed := true }
def BackApartUptoSaid : Prop := backApartUptoRow.holds Tryd.pinned (OpenSpec.upto backApartSpec)

/-- 'marlinspikelaw18.BackAlone', WHERE WHAT IT READS IS OF BULK AT MOST 1048576: true; the input reads as it did. -/
def backAloneUptoRow : OpenClaim := { program := "ytkgphbjneaagoaadoor", sum := "c9a5b096ed81a2c104aad7c41bff566d1571732674776a4fb040502df7c37db0", func := "marlinspike/marlinspikelaw18.BackAlone", spec := "backAlone", unfollowed := true, recurses := true, named := ["math/bits.deBruijn64tab"], apart := false, laid := [("math/bits.deBruijn64tab", laid_math_bits_deBruijn64tab)], narrowed := true }
def BackAloneUptoSaid : Prop := backAloneUptoRow.holds Tryd.pinned (OpenSpec.upto backAloneSpec)

/-- 'marlinspikelaw18.BackAll', WHERE WHAT IT READS IS OF BULK AT MOST 1048576: true; the input reads as it did. -/
def backAllUptoRow : OpenClaim := { program := "ytkgphbjneaagoaadoor", sum := "c9a5b096ed81a2c104aad7c41bff566d1571732674776a4fb040502df7c37db0", func := "marlinspike/marlinspikelaw18.BackAll", spec := "backAll", unfollowed := true, recurses := true, named := ["math/bits.deBruijn64tab"], apart := false, laid := [("math/bits.deBruijn64tab", laid_math_bits_deBruijn64tab)], narrowed := true }
def BackAllUptoSaid : Prop := backAllUptoRow.holds Tryd.pinned (OpenSpec.upto backAllSpec)

/-- 'marlinspikelaw18.BackHeads', WHERE WHAT IT READS IS OF BULK AT MOST 1048576: true; the input reads as it did. -/
def backHeadsUptoRow : OpenClaim := { program := "ytkgphbjneaagoaadoor", sum := "c9a5b096ed81a2c104aad7c41bff566d1571732674776a4fb040502df7c37db0", func := "marlinspike/marlinspikelaw18.BackHeads", spec := "backHeads", unfollowed := true, recurses := true, named := ["math/bits.deBruijn64tab"], apart := false, laid := [("math/bits.deBruijn64tab", laid_math_bits_deBruijn64tab)], narrowed := true }
def BackHeadsUptoSaid : Prop := backHeadsUptoRow.holds Tryd.pinned (OpenSpec.upto backHeadsSpec)

/-- 'marlinspikelaw18.BackHolds', WHERE WHAT IT READS IS OF BULK AT MOST 1048576: true; the input reads as it did. -/
def backHoldsUptoRow : OpenClaim := { program := "ytkgphbjneaagoaadoor", sum := "c9a5b096ed81a2c104aad7c41bff566d1571732674776a4fb040502df7c37db0", func := "marlinspike/marlinspikelaw18.BackHolds", spec := "backHolds", unfollowed := true, recurses := true, named := ["math/bits.deBruijn64tab"], apart := false, laid := [("math/bits.deBruijn64tab", laid_math_bits_deBruijn64tab)], narrowed := true }
def BackHoldsUptoSaid : Prop := backHoldsUptoRow.holds Tryd.pinned (OpenSpec.upto backHoldsSpec)

end Rows
end Go.Proofs.YtkgphbjneaagoaaDoor
