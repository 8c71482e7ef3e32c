/-
  No cell of these rows narrows 'for every input' (looked for: loops, veiled, ifaces, maps, wideKeys, modest, calm, conditions, laid).
  DERIVED. THE GIVEN ROWS OF THIS SEAT. 7 by the template 'for every input the law returns true; each argument reads behind the call as it read before'; 0 by the template 'total and deterministic' (their statements: YtflgnlpippjhcaaTotals.lean).
  GIVEN WITH THE SEED: the statements are not yours to turn. If you find one false, say at which input.
  Laid BY PROGRAM, IN A SANDBOX (cutbox-rows.mjs): the forced cells as the released guide's own fill.sh prints them over the translation c6dbf07595bdf406… (all of the seat's roots in one cut). By AI agents, Wed Nov 11 2026. No macro, syntax, notation, axiom, sorry.
-/
import Derived.Test.YtflgnlpippjhcaaChecked
import GoSem.Claim
import GoSem.ClaimJoined
import GoSem.ClaimMapViews
import Derived.JoinedTies
import Derived.KernelRfl
namespace Go.Proofs.Ytflgnlpippjhcaa
/- THE CELL 'sum', in the pinned program and in every row, IS THE sha256 OF THE DUMP (.gsa) THAT YtflgnlpippjhcaaProg.lean LOADS. Nothing in Lean hashes anything: it is a label: what it is worth is what the hold of that sum in a sandbox is worth. -/
noncomputable def Try.pinned : Pinned := { name := "ytflgnlpippjhcaa", sum := "c6dbf07595bdf40636bb365a24b8d5dac533752be118334e9e626ec0bd29bb40", checked := Try.checked }
namespace Rows
def none {H : Type} : Left H := { results := [], args := [] }

/-- 'marlinspikelaw14.ShareUses': WHATEVER THE INPUT: true; the input reads as it did. -/
def shareUsesSpec : ChangeSpec := { name := "shareUses", fn := fun _ => fun
  | [d1, d2, d3] => { results := [.lit (.bool true)], args := [d1, d2, d3] }
  | _ => none }
def shareUsesRow : OpenClaim := { program := "ytflgnlpippjhcaa", sum := "c6dbf07595bdf40636bb365a24b8d5dac533752be118334e9e626ec0bd29bb40", func := "marlinspike/marlinspikelaw14.ShareUses", spec := "shareUses", inPlace := ["math/bits.Add64"], unfollowed := true, recurses := true, named := ["math/bits.divideError", "math/bits.overflowError"], apart := false }
def ShareUsesSaid : Prop := shareUsesRow.holds Try.pinned (OpenSpec.ofChange shareUsesSpec)

/-- ITS FALSE NEIGHBOUR: 'it returns false'. Refute it at one input. -/
def shareUsesWrong : ChangeSpec := { name := "shareUses", fn := fun _ => fun
  | [d1, d2, d3] => { results := [.lit (.bool false)], args := [d1, d2, d3] }
  | _ => none }
def ShareUsesWrongFalsely : Prop := shareUsesRow.holds Try.pinned (OpenSpec.ofChange shareUsesWrong)

/-- 'marlinspikelaw14.ShareFalls': WHATEVER THE INPUT: true; the input reads as it did. -/
def shareFallsSpec : ChangeSpec := { name := "shareFalls", fn := fun _ => fun
  | [d1, d2, d3] => { results := [.lit (.bool true)], args := [d1, d2, d3] }
  | _ => none }
def shareFallsRow : OpenClaim := { program := "ytflgnlpippjhcaa", sum := "c6dbf07595bdf40636bb365a24b8d5dac533752be118334e9e626ec0bd29bb40", func := "marlinspike/marlinspikelaw14.ShareFalls", spec := "shareFalls", inPlace := ["math/bits.Add64"], unfollowed := true, recurses := true, named := ["math/bits.divideError", "math/bits.overflowError"], apart := false }
def ShareFallsSaid : Prop := shareFallsRow.holds Try.pinned (OpenSpec.ofChange shareFallsSpec)

/-- ITS FALSE NEIGHBOUR: 'it returns false'. Refute it at one input. -/
def shareFallsWrong : ChangeSpec := { name := "shareFalls", fn := fun _ => fun
  | [d1, d2, d3] => { results := [.lit (.bool false)], args := [d1, d2, d3] }
  | _ => none }
def ShareFallsWrongFalsely : Prop := shareFallsRow.holds Try.pinned (OpenSpec.ofChange shareFallsWrong)

/-- 'marlinspikelaw14.ShareApart': WHATEVER THE INPUT: true; the input reads as it did. -/
def shareApartSpec : ChangeSpec := { name := "shareApart", fn := fun _ => fun
  | [d1, d2, d3] => { results := [.lit (.bool true)], args := [d1, d2, d3] }
  | _ => none }
def shareApartRow : OpenClaim := { program := "ytflgnlpippjhcaa", sum := "c6dbf07595bdf40636bb365a24b8d5dac533752be118334e9e626ec0bd29bb40", func := "marlinspike/marlinspikelaw14.ShareApart", spec := "shareApart", inPlace := ["math/bits.Add64"], unfollowed := true, recurses := true, named := ["math/bits.divideError", "math/bits.overflowError"], apart := false }
def ShareApartSaid : Prop := shareApartRow.holds Try.pinned (OpenSpec.ofChange shareApartSpec)

/-- ITS FALSE NEIGHBOUR: 'it returns false'. Refute it at one input. -/
def shareApartWrong : ChangeSpec := { name := "shareApart", fn := fun _ => fun
  | [d1, d2, d3] => { results := [.lit (.bool false)], args := [d1, d2, d3] }
  | _ => none }
def ShareApartWrongFalsely : Prop := shareApartRow.holds Try.pinned (OpenSpec.ofChange shareApartWrong)

/-- 'marlinspikelaw14.ShareSum': WHATEVER THE INPUT: true; the input reads as it did. -/
def shareSumSpec : ChangeSpec := { name := "shareSum", fn := fun _ => fun
  | [d1, d2] => { results := [.lit (.bool true)], args := [d1, d2] }
  | _ => none }
def shareSumRow : OpenClaim := { program := "ytflgnlpippjhcaa", sum := "c6dbf07595bdf40636bb365a24b8d5dac533752be118334e9e626ec0bd29bb40", func := "marlinspike/marlinspikelaw14.ShareSum", spec := "shareSum", inPlace := ["math/bits.Add64"], unfollowed := true, recurses := true, named := ["math/bits.divideError", "math/bits.overflowError"], apart := false }
def ShareSumSaid : Prop := shareSumRow.holds Try.pinned (OpenSpec.ofChange shareSumSpec)

/-- ITS FALSE NEIGHBOUR: 'it returns false'. Refute it at one input. -/
def shareSumWrong : ChangeSpec := { name := "shareSum", fn := fun _ => fun
  | [d1, d2] => { results := [.lit (.bool false)], args := [d1, d2] }
  | _ => none }
def ShareSumWrongFalsely : Prop := shareSumRow.holds Try.pinned (OpenSpec.ofChange shareSumWrong)

/-- 'marlinspikelaw14.ShareNobody': WHATEVER THE INPUT: true; the input reads as it did. -/
def shareNobodySpec : ChangeSpec := { name := "shareNobody", fn := fun _ => fun
  | [d] => { results := [.lit (.bool true)], args := [d] }
  | _ => none }
def shareNobodyRow : OpenClaim := { program := "ytflgnlpippjhcaa", sum := "c6dbf07595bdf40636bb365a24b8d5dac533752be118334e9e626ec0bd29bb40", func := "marlinspike/marlinspikelaw14.ShareNobody", spec := "shareNobody", inPlace := ["math/bits.Add64"], unfollowed := true, recurses := true, named := ["math/bits.divideError", "math/bits.overflowError"], apart := false }
def ShareNobodySaid : Prop := shareNobodyRow.holds Try.pinned (OpenSpec.ofChange shareNobodySpec)

/-- ITS FALSE NEIGHBOUR: 'it returns false'. Refute it at one input. -/
def shareNobodyWrong : ChangeSpec := { name := "shareNobody", fn := fun _ => fun
  | [d] => { results := [.lit (.bool false)], args := [d] }
  | _ => none }
def ShareNobodyWrongFalsely : Prop := shareNobodyRow.holds Try.pinned (OpenSpec.ofChange shareNobodyWrong)

/-- 'marlinspikelaw14.ShareSaves': WHATEVER THE INPUT: true; the input reads as it did. -/
def shareSavesSpec : ChangeSpec := { name := "shareSaves", fn := fun _ => fun
  | [d1, d2, d3] => { results := [.lit (.bool true)], args := [d1, d2, d3] }
  | _ => none }
def shareSavesRow : OpenClaim := { program := "ytflgnlpippjhcaa", sum := "c6dbf07595bdf40636bb365a24b8d5dac533752be118334e9e626ec0bd29bb40", func := "marlinspike/marlinspikelaw14.ShareSaves", spec := "shareSaves", inPlace := ["math/bits.Add64"], unfollowed := true, recurses := true, named := ["math/bits.divideError", "math/bits.overflowError"], apart := false }
def ShareSavesSaid : Prop := shareSavesRow.holds Try.pinned (OpenSpec.ofChange shareSavesSpec)

/-- ITS FALSE NEIGHBOUR: 'it returns false'. Refute it at one input. -/
def shareSavesWrong : ChangeSpec := { name := "shareSaves", fn := fun _ => fun
  | [d1, d2, d3] => { results := [.lit (.bool false)], args := [d1, d2, d3] }
  | _ => none }
def ShareSavesWrongFalsely : Prop := shareSavesRow.holds Try.pinned (OpenSpec.ofChange shareSavesWrong)

/-- 'marlinspikelaw14.ShareGoes': WHATEVER THE INPUT: true; the input reads as it did. -/
def shareGoesSpec : ChangeSpec := { name := "shareGoes", fn := fun _ => fun
  | [d1, d2, d3] => { results := [.lit (.bool true)], args := [d1, d2, d3] }
  | _ => none }
def shareGoesRow : OpenClaim := { program := "ytflgnlpippjhcaa", sum := "c6dbf07595bdf40636bb365a24b8d5dac533752be118334e9e626ec0bd29bb40", func := "marlinspike/marlinspikelaw14.ShareGoes", spec := "shareGoes", inPlace := ["math/bits.Add64"], unfollowed := true, recurses := true, named := ["math/bits.divideError", "math/bits.overflowError"], apart := false }
def ShareGoesSaid : Prop := shareGoesRow.holds Try.pinned (OpenSpec.ofChange shareGoesSpec)

/-- ITS FALSE NEIGHBOUR: 'it returns false'. Refute it at one input. -/
def shareGoesWrong : ChangeSpec := { name := "shareGoes", fn := fun _ => fun
  | [d1, d2, d3] => { results := [.lit (.bool false)], args := [d1, d2, d3] }
  | _ => none }
def ShareGoesWrongFalsely : Prop := shareGoesRow.holds Try.pinned (OpenSpec.ofChange shareGoesWrong)

/- THE SECOND FORM. 'bulk': how many values and letters a reading holds, each counted each time it is reached (what is shared counts as often as it is met; a slice's spare places count too). A statement '..UptoSaid' is the law's where the arguments, and the package variables that the reading takes, are together of bulk at most 1048576: NARROWER than '..Said'. Prove '..Said' where nothing that the law and all that it calls make is longer than what came in: it says more and counts as full. Else prove '..UptoSaid'. A law counts once. -/
mutual
def uptoBulk {H : Type} : DataW H → Nat
  | .lit (.string bytes) => bytes.length + 1
  | .lit _ => 1
  | .nil => 1
  | .ptr d => uptoBulk d + 1
  | .slice elems spare => uptoBulkAll elems + uptoBulkAll spare + 1
  | .agg parts => uptoBulkAll parts + 1
  | .iface _ d => uptoBulk d + 1
  | .map entries => uptoBulkEntries entries + 1
  | .held _ => 1
def uptoBulkAll {H : Type} : List (DataW H) → Nat
  | [] => 0
  | d :: r => uptoBulk d + uptoBulkAll r
def uptoBulkEntries {H : Type} : List (Lit × DataW H) → Nat
  | [] => 0
  | x :: r => uptoBulkEntry x + uptoBulkEntries r
def uptoBulkEntry {H : Type} : Lit × DataW H → Nat
  | (.string bytes, d) => bytes.length + uptoBulk d + 1
  | (_, d) => uptoBulk d + 1
 end
def uptoSmall : (H : Type) → List (DataW H) → Bool := fun _ ds => decide (uptoBulkAll ds ≤ 1048576)
def OpenSpec.upto (s : _root_.Go.ChangeSpec) : _root_.Go.OpenSpec := { _root_.Go.OpenSpec.ofChange s with cond := some uptoSmall }

/-- 'marlinspikelaw14.ShareUses', WHERE WHAT IT READS IS OF BULK AT MOST 1048576: true; the input reads as it did. -/
def shareUsesUptoRow : OpenClaim := { program := "ytflgnlpippjhcaa", sum := "c6dbf07595bdf40636bb365a24b8d5dac533752be118334e9e626ec0bd29bb40", func := "marlinspike/marlinspikelaw14.ShareUses", spec := "shareUses", inPlace := ["math/bits.Add64"], unfollowed := true, recurses := true, named := ["math/bits.divideError", "math/bits.overflowError"], apart := false, narrowed := true }
def ShareUsesUptoSaid : Prop := shareUsesUptoRow.holds Try.pinned (OpenSpec.upto shareUsesSpec)

/-- 'marlinspikelaw14.ShareFalls', WHERE WHAT IT READS IS OF BULK AT MOST 1048576: true; the input reads as it did. -/
def shareFallsUptoRow : OpenClaim := { program := "ytflgnlpippjhcaa", sum := "c6dbf07595bdf40636bb365a24b8d5dac533752be118334e9e626ec0bd29bb40", func := "marlinspike/marlinspikelaw14.ShareFalls", spec := "shareFalls", inPlace := ["math/bits.Add64"], unfollowed := true, recurses := true, named := ["math/bits.divideError", "math/bits.overflowError"], apart := false, narrowed := true }
def ShareFallsUptoSaid : Prop := shareFallsUptoRow.holds Try.pinned (OpenSpec.upto shareFallsSpec)

/-- 'marlinspikelaw14.ShareApart', WHERE WHAT IT READS IS OF BULK AT MOST 1048576: true; the input reads as it did. -/
def shareApartUptoRow : OpenClaim := { program := "ytflgnlpippjhcaa", sum := "c6dbf07595bdf40636bb365a24b8d5dac533752be118334e9e626ec0bd29bb40", func := "marlinspike/marlinspikelaw14.ShareApart", spec := "shareApart", inPlace := ["math/bits.Add64"], unfollowed := true, recurses := true, named := ["math/bits.divideError", "math/bits.overflowError"], apart := false, narrowed := true }
def ShareApartUptoSaid : Prop := shareApartUptoRow.holds Try.pinned (OpenSpec.upto shareApartSpec)

/-- 'marlinspikelaw14.ShareSum', WHERE WHAT IT READS IS OF BULK AT MOST 1048576: true; the input reads as it did. -/
def shareSumUptoRow : OpenClaim := { program := "ytflgnlpippjhcaa", sum := "c6dbf07595bdf40636bb365a24b8d5dac533752be118334e9e626ec0bd29bb40", func := "marlinspike/marlinspikelaw14.ShareSum", spec := "shareSum", inPlace := ["math/bits.Add64"], unfollowed := true, recurses := true, named := ["math/bits.divideError", "math/bits.overflowError"], apart := false, narrowed := true }
def ShareSumUptoSaid : Prop := shareSumUptoRow.holds Try.pinned (OpenSpec.upto shareSumSpec)

/-- 'marlinspikelaw14.ShareNobody', WHERE WHAT IT READS IS OF BULK AT MOST 1048576: true; the input reads as it did. -/
def shareNobodyUptoRow : OpenClaim := { program := "ytflgnlpippjhcaa", sum := "c6dbf07595bdf40636bb365a24b8d5dac533752be118334e9e626ec0bd29bb40", func := "marlinspike/marlinspikelaw14.ShareNobody", spec := "shareNobody", inPlace := ["math/bits.Add64"], unfollowed := true, recurses := true, named := ["math/bits.divideError", "math/bits.overflowError"], apart := false, narrowed := true }
def ShareNobodyUptoSaid : Prop := shareNobodyUptoRow.holds Try.pinned (OpenSpec.upto shareNobodySpec)

/-- 'marlinspikelaw14.ShareSaves', WHERE WHAT IT READS IS OF BULK AT MOST 1048576: true; the input reads as it did. -/
def shareSavesUptoRow : OpenClaim := { program := "ytflgnlpippjhcaa", sum := "c6dbf07595bdf40636bb365a24b8d5dac533752be118334e9e626ec0bd29bb40", func := "marlinspike/marlinspikelaw14.ShareSaves", spec := "shareSaves", inPlace := ["math/bits.Add64"], unfollowed := true, recurses := true, named := ["math/bits.divideError", "math/bits.overflowError"], apart := false, narrowed := true }
def ShareSavesUptoSaid : Prop := shareSavesUptoRow.holds Try.pinned (OpenSpec.upto shareSavesSpec)

/-- 'marlinspikelaw14.ShareGoes', WHERE WHAT IT READS IS OF BULK AT MOST 1048576: true; the input reads as it did. -/
def shareGoesUptoRow : OpenClaim := { program := "ytflgnlpippjhcaa", sum := "c6dbf07595bdf40636bb365a24b8d5dac533752be118334e9e626ec0bd29bb40", func := "marlinspike/marlinspikelaw14.ShareGoes", spec := "shareGoes", inPlace := ["math/bits.Add64"], unfollowed := true, recurses := true, named := ["math/bits.divideError", "math/bits.overflowError"], apart := false, narrowed := true }
def ShareGoesUptoSaid : Prop := shareGoesUptoRow.holds Try.pinned (OpenSpec.upto shareGoesSpec)

end Rows
end Go.Proofs.Ytflgnlpippjhcaa
