/-
  No cell of these rows narrows 'for every input' (looked for: loops, veiled, ifaces, maps, wideKeys, modest, calm, conditions, laid).
  DERIVED. THE GIVEN ROWS OF THIS SEAT. 6 by the template 'for every input the law returns true; each argument reads behind the call as it read before'; 0 by the template 'total and deterministic' (their statements: YthoagfoekopioaaTotals.lean).
  GIVEN WITH THE SEED: the statements are not yours to turn. If you find one false, say at which input.
  Laid BY PROGRAM, IN A SANDBOX (cutbox-rows.mjs): the forced cells as the released guide's own fill.sh prints them over the translation 6b4da6867435ff41… (all of the seat's roots in one cut). By AI agents, Wed Nov 11 2026. No macro, syntax, notation, axiom, sorry.
-/
import Derived.Test.YthoagfoekopioaaChecked
import GoSem.Claim
import GoSem.ClaimJoined
import GoSem.ClaimMapViews
import Derived.JoinedTies
import Derived.KernelRfl
namespace Go.Proofs.Ythoagfoekopioaa
/- THE CELL 'sum', in the pinned program and in every row, IS THE sha256 OF THE DUMP (.gsa) THAT YthoagfoekopioaaProg.lean LOADS. Nothing in Lean hashes anything: it is a label: what it is worth is what the hold of that sum in a sandbox is worth. -/
noncomputable def Try.pinned : Pinned := { name := "ythoagfoekopioaa", sum := "6b4da6867435ff4156b459e531b8eae00f898c3f8f94d5af146daed1a5f8e472", checked := Try.checked }
namespace Rows
def none {H : Type} : Left H := { results := [], args := [] }

/-- 'marlinspikelaw02.SafePart': WHATEVER THE INPUT: true; the input reads as it did. -/
def safePartSpec : ChangeSpec := { name := "safePart", fn := fun _ => fun
  | [d1, d2] => { results := [.lit (.bool true)], args := [d1, d2] }
  | _ => none }
def safePartRow : OpenClaim := { program := "ythoagfoekopioaa", sum := "6b4da6867435ff4156b459e531b8eae00f898c3f8f94d5af146daed1a5f8e472", func := "marlinspike/marlinspikelaw02.SafePart", spec := "safePart", named := ["math/bits.divideError", "math/bits.overflowError"], apart := false }
def SafePartSaid : Prop := safePartRow.holds Try.pinned (OpenSpec.ofChange safePartSpec)

/-- ITS FALSE NEIGHBOUR: 'it returns false'. Refute it at one input. -/
def safePartWrong : ChangeSpec := { name := "safePart", fn := fun _ => fun
  | [d1, d2] => { results := [.lit (.bool false)], args := [d1, d2] }
  | _ => none }
def SafePartWrongFalsely : Prop := safePartRow.holds Try.pinned (OpenSpec.ofChange safePartWrong)

/-- 'marlinspikelaw02.SafeHalves': WHATEVER THE INPUT: true; the input reads as it did. -/
def safeHalvesSpec : ChangeSpec := { name := "safeHalves", fn := fun _ => fun
  | [d1, d2, d3] => { results := [.lit (.bool true)], args := [d1, d2, d3] }
  | _ => none }
def safeHalvesRow : OpenClaim := { program := "ythoagfoekopioaa", sum := "6b4da6867435ff4156b459e531b8eae00f898c3f8f94d5af146daed1a5f8e472", func := "marlinspike/marlinspikelaw02.SafeHalves", spec := "safeHalves", named := ["math/bits.divideError", "math/bits.overflowError"], apart := false }
def SafeHalvesSaid : Prop := safeHalvesRow.holds Try.pinned (OpenSpec.ofChange safeHalvesSpec)

/-- ITS FALSE NEIGHBOUR: 'it returns false'. Refute it at one input. -/
def safeHalvesWrong : ChangeSpec := { name := "safeHalves", fn := fun _ => fun
  | [d1, d2, d3] => { results := [.lit (.bool false)], args := [d1, d2, d3] }
  | _ => none }
def SafeHalvesWrongFalsely : Prop := safeHalvesRow.holds Try.pinned (OpenSpec.ofChange safeHalvesWrong)

/-- 'marlinspikelaw02.SafeShares': WHATEVER THE INPUT: true; the input reads as it did. -/
def safeSharesSpec : ChangeSpec := { name := "safeShares", fn := fun _ => fun
  | [d1, d2, d3] => { results := [.lit (.bool true)], args := [d1, d2, d3] }
  | _ => none }
def safeSharesRow : OpenClaim := { program := "ythoagfoekopioaa", sum := "6b4da6867435ff4156b459e531b8eae00f898c3f8f94d5af146daed1a5f8e472", func := "marlinspike/marlinspikelaw02.SafeShares", spec := "safeShares", named := ["math/bits.divideError", "math/bits.overflowError"], apart := false }
def SafeSharesSaid : Prop := safeSharesRow.holds Try.pinned (OpenSpec.ofChange safeSharesSpec)

/-- ITS FALSE NEIGHBOUR: 'it returns false'. Refute it at one input. -/
def safeSharesWrong : ChangeSpec := { name := "safeShares", fn := fun _ => fun
  | [d1, d2, d3] => { results := [.lit (.bool false)], args := [d1, d2, d3] }
  | _ => none }
def SafeSharesWrongFalsely : Prop := safeSharesRow.holds Try.pinned (OpenSpec.ofChange safeSharesWrong)

/-- 'marlinspikelaw02.SafeSums': WHATEVER THE INPUT: true; the input reads as it did. -/
def safeSumsSpec : ChangeSpec := { name := "safeSums", fn := fun _ => fun
  | [d1, d2] => { results := [.lit (.bool true)], args := [d1, d2] }
  | _ => none }
def safeSumsRow : OpenClaim := { program := "ythoagfoekopioaa", sum := "6b4da6867435ff4156b459e531b8eae00f898c3f8f94d5af146daed1a5f8e472", func := "marlinspike/marlinspikelaw02.SafeSums", spec := "safeSums", named := ["math/bits.divideError", "math/bits.overflowError"], apart := false }
def SafeSumsSaid : Prop := safeSumsRow.holds Try.pinned (OpenSpec.ofChange safeSumsSpec)

/-- ITS FALSE NEIGHBOUR: 'it returns false'. Refute it at one input. -/
def safeSumsWrong : ChangeSpec := { name := "safeSums", fn := fun _ => fun
  | [d1, d2] => { results := [.lit (.bool false)], args := [d1, d2] }
  | _ => none }
def SafeSumsWrongFalsely : Prop := safeSumsRow.holds Try.pinned (OpenSpec.ofChange safeSumsWrong)

/-- 'marlinspikelaw02.SafeBack': WHATEVER THE INPUT: true; the input reads as it did. -/
def safeBackSpec : ChangeSpec := { name := "safeBack", fn := fun _ => fun
  | [d1, d2] => { results := [.lit (.bool true)], args := [d1, d2] }
  | _ => none }
def safeBackRow : OpenClaim := { program := "ythoagfoekopioaa", sum := "6b4da6867435ff4156b459e531b8eae00f898c3f8f94d5af146daed1a5f8e472", func := "marlinspike/marlinspikelaw02.SafeBack", spec := "safeBack", named := ["math/bits.divideError", "math/bits.overflowError"], apart := false }
def SafeBackSaid : Prop := safeBackRow.holds Try.pinned (OpenSpec.ofChange safeBackSpec)

/-- ITS FALSE NEIGHBOUR: 'it returns false'. Refute it at one input. -/
def safeBackWrong : ChangeSpec := { name := "safeBack", fn := fun _ => fun
  | [d1, d2] => { results := [.lit (.bool false)], args := [d1, d2] }
  | _ => none }
def SafeBackWrongFalsely : Prop := safeBackRow.holds Try.pinned (OpenSpec.ofChange safeBackWrong)

/-- 'marlinspikelaw02.SafeTwo': WHATEVER THE INPUT: true; the input reads as it did. -/
def safeTwoSpec : ChangeSpec := { name := "safeTwo", fn := fun _ => fun
  | [d1, d2] => { results := [.lit (.bool true)], args := [d1, d2] }
  | _ => none }
def safeTwoRow : OpenClaim := { program := "ythoagfoekopioaa", sum := "6b4da6867435ff4156b459e531b8eae00f898c3f8f94d5af146daed1a5f8e472", func := "marlinspike/marlinspikelaw02.SafeTwo", spec := "safeTwo", named := ["math/bits.divideError", "math/bits.overflowError"], apart := false }
def SafeTwoSaid : Prop := safeTwoRow.holds Try.pinned (OpenSpec.ofChange safeTwoSpec)

/-- ITS FALSE NEIGHBOUR: 'it returns false'. Refute it at one input. -/
def safeTwoWrong : ChangeSpec := { name := "safeTwo", fn := fun _ => fun
  | [d1, d2] => { results := [.lit (.bool false)], args := [d1, d2] }
  | _ => none }
def SafeTwoWrongFalsely : Prop := safeTwoRow.holds Try.pinned (OpenSpec.ofChange safeTwoWrong)

/- THE SECOND FORM. 'bulk': how many values and letters a reading holds, each counted each time it is reached (what is shared counts as often as it is met; a slice's spare places count too). A statement '..UptoSaid' is the law's where the arguments, and the package variables that the reading takes, are together of bulk at most 1048576: NARROWER than '..Said'. Prove '..Said' where nothing that the law and all that it calls make is longer than what came in: it says more and counts as full. Else prove '..UptoSaid'. A law counts once. -/
mutual
def uptoBulk {H : Type} : DataW H → Nat
  | .lit (.string bytes) => bytes.length + 1
  | .lit _ => 1
  | .nil => 1
  | .ptr d => uptoBulk d + 1
  | .slice elems spare => uptoBulkAll elems + uptoBulkAll spare + 1
  | .agg parts => uptoBulkAll parts + 1
  | .iface _ d => uptoBulk d + 1
  | .map entries => uptoBulkEntries entries + 1
  | .held _ => 1
def uptoBulkAll {H : Type} : List (DataW H) → Nat
  | [] => 0
  | d :: r => uptoBulk d + uptoBulkAll r
def uptoBulkEntries {H : Type} : List (Lit × DataW H) → Nat
  | [] => 0
  | x :: r => uptoBulkEntry x + uptoBulkEntries r
def uptoBulkEntry {H : Type} : Lit × DataW H → Nat
  | (.string bytes, d) => bytes.length + uptoBulk d + 1
  | (_, d) => uptoBulk d + 1
 end
def uptoSmall : (H : Type) → List (DataW H) → Bool := fun _ ds => decide (uptoBulkAll ds ≤ 1048576)
def OpenSpec.upto (s : _root_.Go.ChangeSpec) : _root_.Go.OpenSpec := { _root_.Go.OpenSpec.ofChange s with cond := some uptoSmall }

/-- 'marlinspikelaw02.SafePart', WHERE WHAT IT READS IS OF BULK AT MOST 1048576: true; the input reads as it did. -/
def safePartUptoRow : OpenClaim := { program := "ythoagfoekopioaa", sum := "6b4da6867435ff4156b459e531b8eae00f898c3f8f94d5af146daed1a5f8e472", func := "marlinspike/marlinspikelaw02.SafePart", spec := "safePart", named := ["math/bits.divideError", "math/bits.overflowError"], apart := false, narrowed := true }
def SafePartUptoSaid : Prop := safePartUptoRow.holds Try.pinned (OpenSpec.upto safePartSpec)

/-- 'marlinspikelaw02.SafeHalves', WHERE WHAT IT READS IS OF BULK AT MOST 1048576: true; the input reads as it did. -/
def safeHalvesUptoRow : OpenClaim := { program := "ythoagfoekopioaa", sum := "6b4da6867435ff4156b459e531b8eae00f898c3f8f94d5af146daed1a5f8e472", func := "marlinspike/marlinspikelaw02.SafeHalves", spec := "safeHalves", named := ["math/bits.divideError", "math/bits.overflowError"], apart := false, narrowed := true }
def SafeHalvesUptoSaid : Prop := safeHalvesUptoRow.holds Try.pinned (OpenSpec.upto safeHalvesSpec)

/-- 'marlinspikelaw02.SafeShares', WHERE WHAT IT READS IS OF BULK AT MOST 1048576: true; the input reads as it did. -/
def safeSharesUptoRow : OpenClaim := { program := "ythoagfoekopioaa", sum := "6b4da6867435ff4156b459e531b8eae00f898c3f8f94d5af146daed1a5f8e472", func := "marlinspike/marlinspikelaw02.SafeShares", spec := "safeShares", named := ["math/bits.divideError", "math/bits.overflowError"], apart := false, narrowed := true }
def SafeSharesUptoSaid : Prop := safeSharesUptoRow.holds Try.pinned (OpenSpec.upto safeSharesSpec)

/-- 'marlinspikelaw02.SafeSums', WHERE WHAT IT READS IS OF BULK AT MOST 1048576: true; the input reads as it did. -/
def safeSumsUptoRow : OpenClaim := { program := "ythoagfoekopioaa", sum := "6b4da6867435ff4156b459e531b8eae00f898c3f8f94d5af146daed1a5f8e472", func := "marlinspike/marlinspikelaw02.SafeSums", spec := "safeSums", named := ["math/bits.divideError", "math/bits.overflowError"], apart := false, narrowed := true }
def SafeSumsUptoSaid : Prop := safeSumsUptoRow.holds Try.pinned (OpenSpec.upto safeSumsSpec)

/-- 'marlinspikelaw02.SafeBack', WHERE WHAT IT READS IS OF BULK AT MOST 1048576: true; the input reads as it did. -/
def safeBackUptoRow : OpenClaim := { program := "ythoagfoekopioaa", sum := "6b4da6867435ff4156b459e531b8eae00f898c3f8f94d5af146daed1a5f8e472", func := "marlinspike/marlinspikelaw02.SafeBack", spec := "safeBack", named := ["math/bits.divideError", "math/bits.overflowError"], apart := false, narrowed := true }
def SafeBackUptoSaid : Prop := safeBackUptoRow.holds Try.pinned (OpenSpec.upto safeBackSpec)

/-- 'marlinspikelaw02.SafeTwo', WHERE WHAT IT READS IS OF BULK AT MOST 1048576: true; the input reads as it did. -/
def safeTwoUptoRow : OpenClaim := { program := "ythoagfoekopioaa", sum := "6b4da6867435ff4156b459e531b8eae00f898c3f8f94d5af146daed1a5f8e472", func := "marlinspike/marlinspikelaw02.SafeTwo", spec := "safeTwo", named := ["math/bits.divideError", "math/bits.overflowError"], apart := false, narrowed := true }
def SafeTwoUptoSaid : Prop := safeTwoUptoRow.holds Try.pinned (OpenSpec.upto safeTwoSpec)

end Rows
end Go.Proofs.Ythoagfoekopioaa
