/-
  NARROWER THAN 'FOR EVERY INPUT', by the rows' own cells (each row's printed sentence says how): BitsTwo: laid · BitsParts: laid · BitsOf: laid · BitsMoves: laid · BitsLists: laid · BitsFirst: laid · ScaleDecides: laid · ScaleKeeps: laid · ScaleCap: laid · BitsBack: laid · ScaleGoes: laid · ScaleRests: laid · ScaleLeast: laid · ScaleWanted: laid.
  DERIVED. THE GIVEN ROWS OF THIS SEAT. 14 by the template 'for every input the law returns true; each argument reads behind the call as it read before'; 0 by the template 'total and deterministic' (their statements: YtmhbblkihjmonaaDoorTotals.lean).
  GIVEN WITH THE SEED: the statements are not yours to turn. If you find one false, say at which input.
  Laid BY PROGRAM, IN A SANDBOX (cutbox-rows.mjs): the forced cells as the released guide's own fill.sh prints them over the translation 1bba85f151a1141f… (all of the seat's roots in one cut). By AI agents, Wed Nov 11 2026. No macro, syntax, notation, axiom, sorry.
-/
import Derived.Test.YtmhbblkihjmonaaDoorChecked
import GoSem.Claim
import GoSem.ClaimJoined
import GoSem.ClaimMapViews
import Derived.JoinedTies
import Derived.KernelRfl
namespace Go.Proofs.YtmhbblkihjmonaaDoor
/- THE CELL 'sum', in the pinned program and in every row, IS THE sha256 OF THE DUMP (.gsa) THAT YtmhbblkihjmonaaDoorProg.lean LOADS. Nothing in Lean hashes anything: it is a label: what it is worth is what the hold of that sum in a sandbox is worth. -/
noncomputable def Tryd.pinned : Pinned := { name := "ytmhbblkihjmonaadoor", sum := "1bba85f151a1141f51269c2d9ad8c4ae7328ebd0f3a3af830e032ee3ac86fa51", checked := Tryd.checked }
namespace Rows
def none {H : Type} : Left H := { results := [], args := [] }

/- WHAT THE LISTED PACKAGE-LEVEL VARIABLES READ AS WHEN THE CALL BEGINS. Each datum BY PROGRAM (the guide's laid-datum.mjs) off the statement by which the dump's own 'gosem.cut.vars' lays the variable. In a bare row this is a premise. The card (YtmhbblkihjmonaaDoorCards.lean) ties it to the program's text. -/
def laid_math_bits_deBruijn64tab {H : Type} : DataW H := .agg [.lit (.int .u8 0), .lit (.int .u8 1), .lit (.int .u8 56), .lit (.int .u8 2), .lit (.int .u8 57), .lit (.int .u8 49), .lit (.int .u8 28), .lit (.int .u8 3), .lit (.int .u8 61), .lit (.int .u8 58), .lit (.int .u8 42), .lit (.int .u8 50), .lit (.int .u8 38), .lit (.int .u8 29), .lit (.int .u8 17), .lit (.int .u8 4), .lit (.int .u8 62), .lit (.int .u8 47), .lit (.int .u8 59), .lit (.int .u8 36), .lit (.int .u8 45), .lit (.int .u8 43), .lit (.int .u8 51), .lit (.int .u8 22), .lit (.int .u8 53), .lit (.int .u8 39), .lit (.int .u8 33), .lit (.int .u8 30), .lit (.int .u8 24), .lit (.int .u8 18), .lit (.int .u8 12), .lit (.int .u8 5), .lit (.int .u8 63), .lit (.int .u8 55), .lit (.int .u8 48), .lit (.int .u8 27), .lit (.int .u8 60), .lit (.int .u8 41), .lit (.int .u8 37), .lit (.int .u8 16), .lit (.int .u8 46), .lit (.int .u8 35), .lit (.int .u8 44), .lit (.int .u8 21), .lit (.int .u8 52), .lit (.int .u8 32), .lit (.int .u8 23), .lit (.int .u8 11), .lit (.int .u8 54), .lit (.int .u8 26), .lit (.int .u8 40), .lit (.int .u8 15), .lit (.int .u8 34), .lit (.int .u8 20), .lit (.int .u8 31), .lit (.int .u8 10), .lit (.int .u8 25), .lit (.int .u8 14), .lit (.int .u8 19), .lit (.int .u8 9), .lit (.int .u8 13), .lit (.int .u8 8), .lit (.int .u8 7), .lit (.int .u8 6)]

/-- 'marlinspikelaw01.BitsTwo': WHATEVER THE INPUT: true; the input reads as it did. -/
def bitsTwoSpec : ChangeSpec := { name := "bitsTwo", fn := fun _ => fun
  | [d1, d2] => { results := [.lit (.bool true)], args := [d1, d2] }
  | _ => none }
def bitsTwoRow : OpenClaim := { program := "ytmhbblkihjmonaadoor", sum := "1bba85f151a1141f51269c2d9ad8c4ae7328ebd0f3a3af830e032ee3ac86fa51", func := "marlinspike/marlinspikelaw01.BitsTwo", spec := "bitsTwo", unfollowed := true, recurses := true, named := ["math/bits.deBruijn64tab"], apart := false, laid := [("math/bits.deBruijn64tab", laid_math_bits_deBruijn64tab)] }
def BitsTwoSaid : Prop := bitsTwoRow.holds Tryd.pinned (OpenSpec.ofChange bitsTwoSpec)

/-- ITS FALSE NEIGHBOUR: 'it returns false'. Refute it at one input. -/
def bitsTwoWrong : ChangeSpec := { name := "bitsTwo", fn := fun _ => fun
  | [d1, d2] => { results := [.lit (.bool false)], args := [d1, d2] }
  | _ => none }
def BitsTwoWrongFalsely : Prop := bitsTwoRow.holds Tryd.pinned (OpenSpec.ofChange bitsTwoWrong)

/-- 'marlinspikelaw01.BitsParts': WHATEVER THE INPUT: true; the input reads as it did. -/
def bitsPartsSpec : ChangeSpec := { name := "bitsParts", fn := fun _ => fun
  | [d1, d2] => { results := [.lit (.bool true)], args := [d1, d2] }
  | _ => none }
def bitsPartsRow : OpenClaim := { program := "ytmhbblkihjmonaadoor", sum := "1bba85f151a1141f51269c2d9ad8c4ae7328ebd0f3a3af830e032ee3ac86fa51", func := "marlinspike/marlinspikelaw01.BitsParts", spec := "bitsParts", unfollowed := true, recurses := true, named := ["math/bits.deBruijn64tab"], apart := false, laid := [("math/bits.deBruijn64tab", laid_math_bits_deBruijn64tab)] }
def BitsPartsSaid : Prop := bitsPartsRow.holds Tryd.pinned (OpenSpec.ofChange bitsPartsSpec)

/-- ITS FALSE NEIGHBOUR: 'it returns false'. Refute it at one input. -/
def bitsPartsWrong : ChangeSpec := { name := "bitsParts", fn := fun _ => fun
  | [d1, d2] => { results := [.lit (.bool false)], args := [d1, d2] }
  | _ => none }
def BitsPartsWrongFalsely : Prop := bitsPartsRow.holds Tryd.pinned (OpenSpec.ofChange bitsPartsWrong)

/-- 'marlinspikelaw01.BitsOf': WHATEVER THE INPUT: true; the input reads as it did. -/
def bitsOfSpec : ChangeSpec := { name := "bitsOf", fn := fun _ => fun
  | [d1, d2, d3] => { results := [.lit (.bool true)], args := [d1, d2, d3] }
  | _ => none }
def bitsOfRow : OpenClaim := { program := "ytmhbblkihjmonaadoor", sum := "1bba85f151a1141f51269c2d9ad8c4ae7328ebd0f3a3af830e032ee3ac86fa51", func := "marlinspike/marlinspikelaw01.BitsOf", spec := "bitsOf", unfollowed := true, recurses := true, named := ["math/bits.deBruijn64tab"], apart := false, laid := [("math/bits.deBruijn64tab", laid_math_bits_deBruijn64tab)] }
def BitsOfSaid : Prop := bitsOfRow.holds Tryd.pinned (OpenSpec.ofChange bitsOfSpec)

/-- ITS FALSE NEIGHBOUR: 'it returns false'. Refute it at one input. -/
def bitsOfWrong : ChangeSpec := { name := "bitsOf", fn := fun _ => fun
  | [d1, d2, d3] => { results := [.lit (.bool false)], args := [d1, d2, d3] }
  | _ => none }
def BitsOfWrongFalsely : Prop := bitsOfRow.holds Tryd.pinned (OpenSpec.ofChange bitsOfWrong)

/-- 'marlinspikelaw01.BitsMoves': WHATEVER THE INPUT: true; the input reads as it did. -/
def bitsMovesSpec : ChangeSpec := { name := "bitsMoves", fn := fun _ => fun
  | [d1, d2] => { results := [.lit (.bool true)], args := [d1, d2] }
  | _ => none }
def bitsMovesRow : OpenClaim := { program := "ytmhbblkihjmonaadoor", sum := "1bba85f151a1141f51269c2d9ad8c4ae7328ebd0f3a3af830e032ee3ac86fa51", func := "marlinspike/marlinspikelaw01.BitsMoves", spec := "bitsMoves", named := ["math/bits.deBruijn64tab"], apart := false, laid := [("math/bits.deBruijn64tab", laid_math_bits_deBruijn64tab)] }
def BitsMovesSaid : Prop := bitsMovesRow.holds Tryd.pinned (OpenSpec.ofChange bitsMovesSpec)

/-- ITS FALSE NEIGHBOUR: 'it returns false'. Refute it at one input. -/
def bitsMovesWrong : ChangeSpec := { name := "bitsMoves", fn := fun _ => fun
  | [d1, d2] => { results := [.lit (.bool false)], args := [d1, d2] }
  | _ => none }
def BitsMovesWrongFalsely : Prop := bitsMovesRow.holds Tryd.pinned (OpenSpec.ofChange bitsMovesWrong)

/-- 'marlinspikelaw01.BitsLists': WHATEVER THE INPUT: true; the input reads as it did. -/
def bitsListsSpec : ChangeSpec := { name := "bitsLists", fn := fun _ => fun
  | [d1, d2] => { results := [.lit (.bool true)], args := [d1, d2] }
  | _ => none }
def bitsListsRow : OpenClaim := { program := "ytmhbblkihjmonaadoor", sum := "1bba85f151a1141f51269c2d9ad8c4ae7328ebd0f3a3af830e032ee3ac86fa51", func := "marlinspike/marlinspikelaw01.BitsLists", spec := "bitsLists", unfollowed := true, recurses := true, named := ["math/bits.deBruijn64tab"], apart := false, laid := [("math/bits.deBruijn64tab", laid_math_bits_deBruijn64tab)] }
def BitsListsSaid : Prop := bitsListsRow.holds Tryd.pinned (OpenSpec.ofChange bitsListsSpec)

/-- ITS FALSE NEIGHBOUR: 'it returns false'. Refute it at one input. -/
def bitsListsWrong : ChangeSpec := { name := "bitsLists", fn := fun _ => fun
  | [d1, d2] => { results := [.lit (.bool false)], args := [d1, d2] }
  | _ => none }
def BitsListsWrongFalsely : Prop := bitsListsRow.holds Tryd.pinned (OpenSpec.ofChange bitsListsWrong)

/-- 'marlinspikelaw01.BitsFirst': WHATEVER THE INPUT: true; the input reads as it did. -/
def bitsFirstSpec : ChangeSpec := { name := "bitsFirst", fn := fun _ => fun
  | [d1, d2] => { results := [.lit (.bool true)], args := [d1, d2] }
  | _ => none }
def bitsFirstRow : OpenClaim := { program := "ytmhbblkihjmonaadoor", sum := "1bba85f151a1141f51269c2d9ad8c4ae7328ebd0f3a3af830e032ee3ac86fa51", func := "marlinspike/marlinspikelaw01.BitsFirst", spec := "bitsFirst", unfollowed := true, recurses := true, named := ["math/bits.deBruijn64tab"], apart := false, laid := [("math/bits.deBruijn64tab", laid_math_bits_deBruijn64tab)] }
def BitsFirstSaid : Prop := bitsFirstRow.holds Tryd.pinned (OpenSpec.ofChange bitsFirstSpec)

/-- ITS FALSE NEIGHBOUR: 'it returns false'. Refute it at one input. -/
def bitsFirstWrong : ChangeSpec := { name := "bitsFirst", fn := fun _ => fun
  | [d1, d2] => { results := [.lit (.bool false)], args := [d1, d2] }
  | _ => none }
def BitsFirstWrongFalsely : Prop := bitsFirstRow.holds Tryd.pinned (OpenSpec.ofChange bitsFirstWrong)

/-- 'marlinspikelaw19.ScaleDecides': WHATEVER THE INPUT: true; the input reads as it did. -/
def scaleDecidesSpec : ChangeSpec := { name := "scaleDecides", fn := fun _ => fun
  | [d] => { results := [.lit (.bool true)], args := [d] }
  | _ => none }
def scaleDecidesRow : OpenClaim := { program := "ytmhbblkihjmonaadoor", sum := "1bba85f151a1141f51269c2d9ad8c4ae7328ebd0f3a3af830e032ee3ac86fa51", func := "marlinspike/marlinspikelaw19.ScaleDecides", spec := "scaleDecides", unfollowed := true, recurses := true, named := ["math/bits.deBruijn64tab"], apart := false, laid := [("math/bits.deBruijn64tab", laid_math_bits_deBruijn64tab)] }
def ScaleDecidesSaid : Prop := scaleDecidesRow.holds Tryd.pinned (OpenSpec.ofChange scaleDecidesSpec)

/-- ITS FALSE NEIGHBOUR: 'it returns false'. Refute it at one input. -/
def scaleDecidesWrong : ChangeSpec := { name := "scaleDecides", fn := fun _ => fun
  | [d] => { results := [.lit (.bool false)], args := [d] }
  | _ => none }
def ScaleDecidesWrongFalsely : Prop := scaleDecidesRow.holds Tryd.pinned (OpenSpec.ofChange scaleDecidesWrong)

/-- 'marlinspikelaw19.ScaleKeeps': WHATEVER THE INPUT: true; the input reads as it did. -/
def scaleKeepsSpec : ChangeSpec := { name := "scaleKeeps", fn := fun _ => fun
  | [d] => { results := [.lit (.bool true)], args := [d] }
  | _ => none }
def scaleKeepsRow : OpenClaim := { program := "ytmhbblkihjmonaadoor", sum := "1bba85f151a1141f51269c2d9ad8c4ae7328ebd0f3a3af830e032ee3ac86fa51", func := "marlinspike/marlinspikelaw19.ScaleKeeps", spec := "scaleKeeps", unfollowed := true, recurses := true, named := ["math/bits.deBruijn64tab"], apart := false, laid := [("math/bits.deBruijn64tab", laid_math_bits_deBruijn64tab)] }
def ScaleKeepsSaid : Prop := scaleKeepsRow.holds Tryd.pinned (OpenSpec.ofChange scaleKeepsSpec)

/-- ITS FALSE NEIGHBOUR: 'it returns false'. Refute it at one input. -/
def scaleKeepsWrong : ChangeSpec := { name := "scaleKeeps", fn := fun _ => fun
  | [d] => { results := [.lit (.bool false)], args := [d] }
  | _ => none }
def ScaleKeepsWrongFalsely : Prop := scaleKeepsRow.holds Tryd.pinned (OpenSpec.ofChange scaleKeepsWrong)

/-- 'marlinspikelaw19.ScaleCap': WHATEVER THE INPUT: true; the input reads as it did. -/
def scaleCapSpec : ChangeSpec := { name := "scaleCap", fn := fun _ => fun
  | [d] => { results := [.lit (.bool true)], args := [d] }
  | _ => none }
def scaleCapRow : OpenClaim := { program := "ytmhbblkihjmonaadoor", sum := "1bba85f151a1141f51269c2d9ad8c4ae7328ebd0f3a3af830e032ee3ac86fa51", func := "marlinspike/marlinspikelaw19.ScaleCap", spec := "scaleCap", unfollowed := true, recurses := true, named := ["math/bits.deBruijn64tab"], apart := false, laid := [("math/bits.deBruijn64tab", laid_math_bits_deBruijn64tab)] }
def ScaleCapSaid : Prop := scaleCapRow.holds Tryd.pinned (OpenSpec.ofChange scaleCapSpec)

/-- ITS FALSE NEIGHBOUR: 'it returns false'. Refute it at one input. -/
def scaleCapWrong : ChangeSpec := { name := "scaleCap", fn := fun _ => fun
  | [d] => { results := [.lit (.bool false)], args := [d] }
  | _ => none }
def ScaleCapWrongFalsely : Prop := scaleCapRow.holds Tryd.pinned (OpenSpec.ofChange scaleCapWrong)

/-- 'marlinspikelaw01.BitsBack': WHATEVER THE INPUT: true; the input reads as it did. -/
def bitsBackSpec : ChangeSpec := { name := "bitsBack", fn := fun _ => fun
  | [d1, d2] => { results := [.lit (.bool true)], args := [d1, d2] }
  | _ => none }
def bitsBackRow : OpenClaim := { program := "ytmhbblkihjmonaadoor", sum := "1bba85f151a1141f51269c2d9ad8c4ae7328ebd0f3a3af830e032ee3ac86fa51", func := "marlinspike/marlinspikelaw01.BitsBack", spec := "bitsBack", unfollowed := true, recurses := true, named := ["math/bits.deBruijn64tab"], apart := false, laid := [("math/bits.deBruijn64tab", laid_math_bits_deBruijn64tab)] }
def BitsBackSaid : Prop := bitsBackRow.holds Tryd.pinned (OpenSpec.ofChange bitsBackSpec)

/-- ITS FALSE NEIGHBOUR: 'it returns false'. Refute it at one input. -/
def bitsBackWrong : ChangeSpec := { name := "bitsBack", fn := fun _ => fun
  | [d1, d2] => { results := [.lit (.bool false)], args := [d1, d2] }
  | _ => none }
def BitsBackWrongFalsely : Prop := bitsBackRow.holds Tryd.pinned (OpenSpec.ofChange bitsBackWrong)

/-- 'marlinspikelaw19.ScaleGoes': WHATEVER THE INPUT: true; the input reads as it did. -/
def scaleGoesSpec : ChangeSpec := { name := "scaleGoes", fn := fun _ => fun
  | [d1, d2, d3] => { results := [.lit (.bool true)], args := [d1, d2, d3] }
  | _ => none }
def scaleGoesRow : OpenClaim := { program := "ytmhbblkihjmonaadoor", sum := "1bba85f151a1141f51269c2d9ad8c4ae7328ebd0f3a3af830e032ee3ac86fa51", func := "marlinspike/marlinspikelaw19.ScaleGoes", spec := "scaleGoes", unfollowed := true, recurses := true, named := ["math/bits.deBruijn64tab"], apart := false, laid := [("math/bits.deBruijn64tab", laid_math_bits_deBruijn64tab)] }
def ScaleGoesSaid : Prop := scaleGoesRow.holds Tryd.pinned (OpenSpec.ofChange scaleGoesSpec)

/-- ITS FALSE NEIGHBOUR: 'it returns false'. Refute it at one input. -/
def scaleGoesWrong : ChangeSpec := { name := "scaleGoes", fn := fun _ => fun
  | [d1, d2, d3] => { results := [.lit (.bool false)], args := [d1, d2, d3] }
  | _ => none }
def ScaleGoesWrongFalsely : Prop := scaleGoesRow.holds Tryd.pinned (OpenSpec.ofChange scaleGoesWrong)

/-- 'marlinspikelaw19.ScaleRests': WHATEVER THE INPUT: true; the input reads as it did. -/
def scaleRestsSpec : ChangeSpec := { name := "scaleRests", fn := fun _ => fun
  | [d] => { results := [.lit (.bool true)], args := [d] }
  | _ => none }
def scaleRestsRow : OpenClaim := { program := "ytmhbblkihjmonaadoor", sum := "1bba85f151a1141f51269c2d9ad8c4ae7328ebd0f3a3af830e032ee3ac86fa51", func := "marlinspike/marlinspikelaw19.ScaleRests", spec := "scaleRests", unfollowed := true, recurses := true, named := ["math/bits.deBruijn64tab"], apart := false, laid := [("math/bits.deBruijn64tab", laid_math_bits_deBruijn64tab)] }
def ScaleRestsSaid : Prop := scaleRestsRow.holds Tryd.pinned (OpenSpec.ofChange scaleRestsSpec)

/-- ITS FALSE NEIGHBOUR: 'it returns false'. Refute it at one input. -/
def scaleRestsWrong : ChangeSpec := { name := "scaleRests", fn := fun _ => fun
  | [d] => { results := [.lit (.bool false)], args := [d] }
  | _ => none }
def ScaleRestsWrongFalsely : Prop := scaleRestsRow.holds Tryd.pinned (OpenSpec.ofChange scaleRestsWrong)

/-- 'marlinspikelaw19.ScaleLeast': WHATEVER THE INPUT: true; the input reads as it did. -/
def scaleLeastSpec : ChangeSpec := { name := "scaleLeast", fn := fun _ => fun
  | [d] => { results := [.lit (.bool true)], args := [d] }
  | _ => none }
def scaleLeastRow : OpenClaim := { program := "ytmhbblkihjmonaadoor", sum := "1bba85f151a1141f51269c2d9ad8c4ae7328ebd0f3a3af830e032ee3ac86fa51", func := "marlinspike/marlinspikelaw19.ScaleLeast", spec := "scaleLeast", unfollowed := true, recurses := true, named := ["math/bits.deBruijn64tab"], apart := false, laid := [("math/bits.deBruijn64tab", laid_math_bits_deBruijn64tab)] }
def ScaleLeastSaid : Prop := scaleLeastRow.holds Tryd.pinned (OpenSpec.ofChange scaleLeastSpec)

/-- ITS FALSE NEIGHBOUR: 'it returns false'. Refute it at one input. -/
def scaleLeastWrong : ChangeSpec := { name := "scaleLeast", fn := fun _ => fun
  | [d] => { results := [.lit (.bool false)], args := [d] }
  | _ => none }
def ScaleLeastWrongFalsely : Prop := scaleLeastRow.holds Tryd.pinned (OpenSpec.ofChange scaleLeastWrong)

/-- 'marlinspikelaw19.ScaleWanted': WHATEVER THE INPUT: true; the input reads as it did. -/
def scaleWantedSpec : ChangeSpec := { name := "scaleWanted", fn := fun _ => fun
  | [d] => { results := [.lit (.bool true)], args := [d] }
  | _ => none }
def scaleWantedRow : OpenClaim := { program := "ytmhbblkihjmonaadoor", sum := "1bba85f151a1141f51269c2d9ad8c4ae7328ebd0f3a3af830e032ee3ac86fa51", func := "marlinspike/marlinspikelaw19.ScaleWanted", spec := "scaleWanted", unfollowed := true, recurses := true, named := ["math/bits.deBruijn64tab"], apart := false, laid := [("math/bits.deBruijn64tab", laid_math_bits_deBruijn64tab)] }
def ScaleWantedSaid : Prop := scaleWantedRow.holds Tryd.pinned (OpenSpec.ofChange scaleWantedSpec)

/-- ITS FALSE NEIGHBOUR: 'it returns false'. Refute it at one input. -/
def scaleWantedWrong : ChangeSpec := { name := "scaleWanted", fn := fun _ => fun
  | [d] => { results := [.lit (.bool false)], args := [d] }
  | _ => none }
def ScaleWantedWrongFalsely : Prop := scaleWantedRow.holds Tryd.pinned (OpenSpec.ofChange scaleWantedWrong)

/- THE SECOND FORM. 'bulk': how many values and letters a reading holds, each counted each time it is reached (what is shared counts as often as it is met; a slice's spare places count too). A statement '..UptoSaid' is the law's where the arguments, and the package variables that the reading takes, are together of bulk at most 1048576: NARROWER than '..Said'. Prove '..Said' where nothing that the law and all that it calls make is longer than what came in: it says more and counts as full. Else prove '..UptoSaid'. A law counts once. -/
mutual
def uptoBulk {H : Type} : DataW H → Nat
  | .lit (.string bytes) => bytes.length + 1
  | .lit _ => 1
  | .nil => 1
  | .ptr d => uptoBulk d + 1
  | .slice elems spare => uptoBulkAll elems + uptoBulkAll spare + 1
  | .agg parts => uptoBulkAll parts + 1
  | .iface _ d => uptoBulk d + 1
  | .map entries => uptoBulkEntries entries + 1
  | .held _ => 1
def uptoBulkAll {H : Type} : List (DataW H) → Nat
  | [] => 0
  | d :: r => uptoBulk d + uptoBulkAll r
def uptoBulkEntries {H : Type} : List (Lit × DataW H) → Nat
  | [] => 0
  | x :: r => uptoBulkEntry x + uptoBulkEntries r
def uptoBulkEntry {H : Type} : Lit × DataW H → Nat
  | (.string bytes, d) => bytes.length + uptoBulk d + 1
  | (_, d) => uptoBulk d + 1
 end
def uptoSmall : (H : Type) → List (DataW H) → Bool := fun _ ds => decide (uptoBulkAll ds ≤ 1048576)
def OpenSpec.upto (s : _root_.Go.ChangeSpec) : _root_.Go.OpenSpec := { _root_.Go.OpenSpec.ofChange s with cond := some uptoSmall }

/-- 'marlinspikelaw01.BitsTwo', WHERE WHAT IT READS IS OF BULK AT MOST 1048576: true; the input reads as it did. -/
def bitsTwoUptoRow : OpenClaim := { program := "ytmhbblkihjmonaadoor", sum := "1bba85f151a1141f51269c2d9ad8c4ae7328ebd0f3a3af830e032ee3ac86fa51", func := "marlinspike/marlinspikelaw01.BitsTwo", spec := "bitsTwo", unfollowed := true, recurses := true, named := ["math/bits.deBruijn64tab"], apart := false, laid := [("math/bits.deBruijn64tab", laid_math_bits_deBruijn64tab)], narrowed := true }
def BitsTwoUptoSaid : Prop := bitsTwoUptoRow.holds Tryd.pinned (OpenSpec.upto bitsTwoSpec)

/-- 'marlinspikelaw01.BitsParts', WHERE WHAT IT READS IS OF BULK AT MOST 1048576: true; the input reads as it did. -/
def bitsPartsUptoRow : OpenClaim := { program := "ytmhbblkihjmonaadoor", sum := "1bba85f151a1141f51269c2d9ad8c4ae7328ebd0f3a3af830e032ee3ac86fa51", func := "marlinspike/marlinspikelaw01.BitsParts", spec := "bitsParts", unfollowed := true, recurses := true, named := ["math/bits.deBruijn64tab"], apart := false, laid := [("math/bits.deBruijn64tab", laid_math_bits_deBruijn64tab)], narrowed := true }
def BitsPartsUptoSaid : Prop := bitsPartsUptoRow.holds Tryd.pinned (OpenSpec.upto bitsPartsSpec)

/-- 'marlinspikelaw01.BitsOf', WHERE WHAT IT READS IS OF BULK AT MOST 1048576: true; the input reads as it did. -/
def bitsOfUptoRow : OpenClaim := { program := "ytmhbblkihjmonaadoor", sum := "1bba85f151a1141f51269c2d9ad8c4ae7328ebd0f3a3af830e032ee3ac86fa51", func := "marlinspike/marlinspikelaw01.BitsOf", spec := "bitsOf", unfollowed := true, recurses := true, named := ["math/bits.deBruijn64tab"], apart := false, laid := [("math/bits.deBruijn64tab", laid_math_bits_deBruijn64tab)], narrowed := true }
def BitsOfUptoSaid : Prop := bitsOfUptoRow.holds Tryd.pinned (OpenSpec.upto bitsOfSpec)

/-- 'marlinspikelaw01.BitsMoves', WHERE WHAT IT READS IS OF BULK AT MOST 1048576: true; the input reads as it did. -/
def bitsMovesUptoRow : OpenClaim := { program := "ytmhbblkihjmonaadoor", sum := "1bba85f151a1141f51269c2d9ad8c4ae7328ebd0f3a3af830e032ee3ac86fa51", func := "marlinspike/marlinspikelaw01.BitsMoves", spec := "bitsMoves", named := ["math/bits.deBruijn64tab"], apart := false, laid := [("math/bits.deBruijn64tab", laid_math_bits_deBruijn64tab)], narrowed := true }
def BitsMovesUptoSaid : Prop := bitsMovesUptoRow.holds Tryd.pinned (OpenSpec.upto bitsMovesSpec)

/-- 'marlinspikelaw01.BitsLists', WHERE WHAT IT READS IS OF BULK AT MOST 1048576: true; the input reads as it did. -/
def bitsListsUptoRow : OpenClaim := { program := "ytmhbblkihjmonaadoor", sum := "1bba85f151a1141f51269c2d9ad8c4ae7328ebd0f3a3af830e032ee3ac86fa51", func := "marlinspike/marlinspikelaw01.BitsLists", spec := "bitsLists", unfollowed := true, recurses := true, named := ["math/bits.deBruijn64tab"], apart := false, laid := [("math/bits.deBruijn64tab", laid_math_bits_deBruijn64tab)], narrowed := true }
def BitsListsUptoSaid : Prop := bitsListsUptoRow.holds Tryd.pinned (OpenSpec.upto bitsListsSpec)

/-- 'marlinspikelaw01.BitsFirst', WHERE WHAT IT READS IS OF BULK AT MOST 1048576: true; the input reads as it did. -/
def bitsFirstUptoRow : OpenClaim := { program := "ytmhbblkihjmonaadoor", sum := "1bba85f151a1141f51269c2d9ad8c4ae7328ebd0f3a3af830e032ee3ac86fa51", func := "marlinspike/marlinspikelaw01.BitsFirst", spec := "bitsFirst", unfollowed := true, recurses := true, named := ["math/bits.deBruijn64tab"], apart := false, laid := [("math/bits.deBruijn64tab", laid_math_bits_deBruijn64tab)], narrowed := true }
def BitsFirstUptoSaid : Prop := bitsFirstUptoRow.holds Tryd.pinned (OpenSpec.upto bitsFirstSpec)

/-- 'marlinspikelaw19.ScaleDecides', WHERE WHAT IT READS IS OF BULK AT MOST 1048576: true; the input reads as it did. -/
def scaleDecidesUptoRow : OpenClaim := { program := "ytmhbblkihjmonaadoor", sum := "1bba85f151a1141f51269c2d9ad8c4ae7328ebd0f3a3af830e032ee3ac86fa51", func := "marlinspike/marlinspikelaw19.ScaleDecides", spec := "scaleDecides", unfollowed := true, recurses := true, named := ["math/bits.deBruijn64tab"], apart := false, laid := [("math/bits.deBruijn64tab", laid_math_bits_deBruijn64tab)], narrowed := true }
def ScaleDecidesUptoSaid : Prop := scaleDecidesUptoRow.holds Tryd.pinned (OpenSpec.upto scaleDecidesSpec)

/-- 'marlinspikelaw19.ScaleKeeps', WHERE WHAT IT READS IS OF BULK AT MOST 1048576: true; the input reads as it did. -/
def scaleKeepsUptoRow : OpenClaim := { program := "ytmhbblkihjmonaadoor", sum := "1bba85f151a1141f51269c2d9ad8c4ae7328ebd0f3a3af830e032ee3ac86fa51", func := "marlinspike/marlinspikelaw19.ScaleKeeps", spec := "scaleKeeps", unfollowed := true, recurses := true, named := ["math/bits.deBruijn64tab"], apart := false, laid := [("math/bits.deBruijn64tab", laid_math_bits_deBruijn64tab)], narrowed := true }
def ScaleKeepsUptoSaid : Prop := scaleKeepsUptoRow.holds Tryd.pinned (OpenSpec.upto scaleKeepsSpec)

/-- 'marlinspikelaw19.ScaleCap', WHERE WHAT IT READS IS OF BULK AT MOST 1048576: true; the input reads as it did. -/
def scaleCapUptoRow : OpenClaim := { program := "ytmhbblkihjmonaadoor", sum := "1bba85f151a1141f51269c2d9ad8c4ae7328ebd0f3a3af830e032ee3ac86fa51", func := "marlinspike/marlinspikelaw19.ScaleCap", spec := "scaleCap", unfollowed := true, recurses := true, named := ["math/bits.deBruijn64tab"], apart := false, laid := [("math/bits.deBruijn64tab", laid_math_bits_deBruijn64tab)], narrowed := true }
def ScaleCapUptoSaid : Prop := scaleCapUptoRow.holds Tryd.pinned (OpenSpec.upto scaleCapSpec)

/-- 'marlinspikelaw01.BitsBack', WHERE WHAT IT READS IS OF BULK AT MOST 1048576: true; the input reads as it did. -/
def bitsBackUptoRow : OpenClaim := { program := "ytmhbblkihjmonaadoor", sum := "1bba85f151a1141f51269c2d9ad8c4ae7328ebd0f3a3af830e032ee3ac86fa51", func := "marlinspike/marlinspikelaw01.BitsBack", spec := "bitsBack", unfollowed := true, recurses := true, named := ["math/bits.deBruijn64tab"], apart := false, laid := [("math/bits.deBruijn64tab", laid_math_bits_deBruijn64tab)], narrowed := true }
def BitsBackUptoSaid : Prop := bitsBackUptoRow.holds Tryd.pinned (OpenSpec.upto bitsBackSpec)

/-- 'marlinspikelaw19.ScaleGoes', WHERE WHAT IT READS IS OF BULK AT MOST 1048576: true; the input reads as it did. -/
def scaleGoesUptoRow : OpenClaim := { program := "ytmhbblkihjmonaadoor", sum := "1bba85f151a1141f51269c2d9ad8c4ae7328ebd0f3a3af830e032ee3ac86fa51", func := "marlinspike/marlinspikelaw19.ScaleGoes", spec := "scaleGoes", unfollowed := true, recurses := true, named := ["math/bits.deBruijn64tab"], apart := false, laid := [("math/bits.deBruijn64tab", laid_math_bits_deBruijn64tab)], narrowed := true }
def ScaleGoesUptoSaid : Prop := scaleGoesUptoRow.holds Tryd.pinned (OpenSpec.upto scaleGoesSpec)

/-- 'marlinspikelaw19.ScaleRests', WHERE WHAT IT READS IS OF BULK AT MOST 1048576: true; the input reads as it did. -/
def scaleRestsUptoRow : OpenClaim := { program := "ytmhbblkihjmonaadoor", sum := "1bba85f151a1141f51269c2d9ad8c4ae7328ebd0f3a3af830e032ee3ac86fa51", func := "marlinspike/marlinspikelaw19.ScaleRests", spec := "scaleRests", unfollowed := true, recurses := true, named := ["math/bits.deBruijn64tab"], apart := false, laid := [("math/bits.deBruijn64tab", laid_math_bits_deBruijn64tab)], narrowed := true }
def ScaleRestsUptoSaid : Prop := scaleRestsUptoRow.holds Tryd.pinned (OpenSpec.upto scaleRestsSpec)

/-- 'marlinspikelaw19.ScaleLeast', WHERE WHAT IT READS IS OF BULK AT MOST 1048576: true; the input reads as it did. -/
def scaleLeastUptoRow : OpenClaim := { program := "ytmhbblkihjmonaadoor", sum := "1bba85f151a1141f51269c2d9ad8c4ae7328ebd0f3a3af830e032ee3ac86fa51", func := "marlinspike/marlinspikelaw19.ScaleLeast", spec := "scaleLeast", unfollowed := true, recurses := true, named := ["math/bits.deBruijn64tab"], apart := false, laid := [("math/bits.deBruijn64tab", laid_math_bits_deBruijn64tab)], narrowed := true }
def ScaleLeastUptoSaid : Prop := scaleLeastUptoRow.holds Tryd.pinned (OpenSpec.upto scaleLeastSpec)

/-- 'marlinspikelaw19.ScaleWanted', WHERE WHAT IT READS IS OF BULK AT MOST 1048576: true; the input reads as it did. -/
def scaleWantedUptoRow : OpenClaim := { program := "ytmhbblkihjmonaadoor", sum := "1bba85f151a1141f51269c2d9ad8c4ae7328ebd0f3a3af830e032ee3ac86fa51", func := "marlinspike/marlinspikelaw19.ScaleWanted", spec := "scaleWanted", unfollowed := true, recurses := true, named := ["math/bits.deBruijn64tab"], apart := false, laid := [("math/bits.deBruijn64tab", laid_math_bits_deBruijn64tab)], narrowed := true }
def ScaleWantedUptoSaid : Prop := scaleWantedUptoRow.holds Tryd.pinned (OpenSpec.upto scaleWantedSpec)

end Rows
end Go.Proofs.YtmhbblkihjmonaaDoor
