/-
  No cell of these rows narrows 'for every input' (looked for: loops, veiled, ifaces, maps, wideKeys, modest, calm, conditions, laid).
  DERIVED. THE GIVEN ROWS OF THIS SEAT. 4 by the template 'for every input the law returns true; each argument reads behind the call as it read before'; 0 by the template 'total and deterministic' (their statements: YtmilcgfcmeahgaaTotals.lean).
  GIVEN WITH THE SEED: the statements are not yours to turn. If you find one false, say at which input.
  Laid BY PROGRAM, IN A SANDBOX (cutbox-rows.mjs): the forced cells as the released guide's own fill.sh prints them over the translation 2d0e76e75b0f50af… (all of the seat's roots in one cut). By AI agents, Wed Nov 11 2026. No macro, syntax, notation, axiom, sorry.
-/
import Derived.Test.YtmilcgfcmeahgaaChecked
import GoSem.Claim
import GoSem.ClaimJoined
import GoSem.ClaimMapViews
import Derived.JoinedTies
import Derived.KernelRfl
namespace Go.Proofs.Ytmilcgfcmeahgaa
/- THE CELL 'sum', in the pinned program and in every row, IS THE sha256 OF THE DUMP (.gsa) THAT YtmilcgfcmeahgaaProg.lean LOADS. Nothing in Lean hashes anything: it is a label: what it is worth is what the hold of that sum in a sandbox is worth. -/
noncomputable def Try.pinned : Pinned := { name := "ytmilcgfcmeahgaa", sum := "2d0e76e75b0f50afa89d31c7bd711bf2164cb207c39e1499c119862dd7b039ff", checked := Try.checked }
namespace Rows
def none {H : Type} : Left H := { results := [], args := [] }

/-- 'marlinspikelaw15.PrioPoints': WHATEVER THE INPUT: true; the input reads as it did. -/
def prioPointsSpec : ChangeSpec := { name := "prioPoints", fn := fun _ => fun
  | [d1, d2, d3] => { results := [.lit (.bool true)], args := [d1, d2, d3] }
  | _ => none }
def prioPointsRow : OpenClaim := { program := "ytmilcgfcmeahgaa", sum := "2d0e76e75b0f50afa89d31c7bd711bf2164cb207c39e1499c119862dd7b039ff", func := "marlinspike/marlinspikelaw15.PrioPoints", spec := "prioPoints", apart := false }
def PrioPointsSaid : Prop := prioPointsRow.holds Try.pinned (OpenSpec.ofChange prioPointsSpec)

/-- ITS FALSE NEIGHBOUR: 'it returns false'. Refute it at one input. -/
def prioPointsWrong : ChangeSpec := { name := "prioPoints", fn := fun _ => fun
  | [d1, d2, d3] => { results := [.lit (.bool false)], args := [d1, d2, d3] }
  | _ => none }
def PrioPointsWrongFalsely : Prop := prioPointsRow.holds Try.pinned (OpenSpec.ofChange prioPointsWrong)

/-- 'marlinspikelaw15.PrioAge': WHATEVER THE INPUT: true; the input reads as it did. -/
def prioAgeSpec : ChangeSpec := { name := "prioAge", fn := fun _ => fun
  | [d1, d2, d3] => { results := [.lit (.bool true)], args := [d1, d2, d3] }
  | _ => none }
def prioAgeRow : OpenClaim := { program := "ytmilcgfcmeahgaa", sum := "2d0e76e75b0f50afa89d31c7bd711bf2164cb207c39e1499c119862dd7b039ff", func := "marlinspike/marlinspikelaw15.PrioAge", spec := "prioAge", apart := false }
def PrioAgeSaid : Prop := prioAgeRow.holds Try.pinned (OpenSpec.ofChange prioAgeSpec)

/-- ITS FALSE NEIGHBOUR: 'it returns false'. Refute it at one input. -/
def prioAgeWrong : ChangeSpec := { name := "prioAge", fn := fun _ => fun
  | [d1, d2, d3] => { results := [.lit (.bool false)], args := [d1, d2, d3] }
  | _ => none }
def PrioAgeWrongFalsely : Prop := prioAgeRow.holds Try.pinned (OpenSpec.ofChange prioAgeWrong)

/-- 'marlinspikelaw15.PrioOrder': WHATEVER THE INPUT: true; the input reads as it did. -/
def prioOrderSpec : ChangeSpec := { name := "prioOrder", fn := fun _ => fun
  | [d1, d2, d3] => { results := [.lit (.bool true)], args := [d1, d2, d3] }
  | _ => none }
def prioOrderRow : OpenClaim := { program := "ytmilcgfcmeahgaa", sum := "2d0e76e75b0f50afa89d31c7bd711bf2164cb207c39e1499c119862dd7b039ff", func := "marlinspike/marlinspikelaw15.PrioOrder", spec := "prioOrder", apart := false }
def PrioOrderSaid : Prop := prioOrderRow.holds Try.pinned (OpenSpec.ofChange prioOrderSpec)

/-- ITS FALSE NEIGHBOUR: 'it returns false'. Refute it at one input. -/
def prioOrderWrong : ChangeSpec := { name := "prioOrder", fn := fun _ => fun
  | [d1, d2, d3] => { results := [.lit (.bool false)], args := [d1, d2, d3] }
  | _ => none }
def PrioOrderWrongFalsely : Prop := prioOrderRow.holds Try.pinned (OpenSpec.ofChange prioOrderWrong)

/-- 'marlinspikelaw15.PrioAlone': WHATEVER THE INPUT: true; the input reads as it did. -/
def prioAloneSpec : ChangeSpec := { name := "prioAlone", fn := fun _ => fun
  | [d1, d2, d3] => { results := [.lit (.bool true)], args := [d1, d2, d3] }
  | _ => none }
def prioAloneRow : OpenClaim := { program := "ytmilcgfcmeahgaa", sum := "2d0e76e75b0f50afa89d31c7bd711bf2164cb207c39e1499c119862dd7b039ff", func := "marlinspike/marlinspikelaw15.PrioAlone", spec := "prioAlone", apart := false }
def PrioAloneSaid : Prop := prioAloneRow.holds Try.pinned (OpenSpec.ofChange prioAloneSpec)

/-- ITS FALSE NEIGHBOUR: 'it returns false'. Refute it at one input. -/
def prioAloneWrong : ChangeSpec := { name := "prioAlone", fn := fun _ => fun
  | [d1, d2, d3] => { results := [.lit (.bool false)], args := [d1, d2, d3] }
  | _ => none }
def PrioAloneWrongFalsely : Prop := prioAloneRow.holds Try.pinned (OpenSpec.ofChange prioAloneWrong)

/- THE SECOND FORM. 'bulk': how many values and letters a reading holds, each counted each time it is reached (what is shared counts as often as it is met; a slice's spare places count too). A statement '..UptoSaid' is the law's where the arguments, and the package variables that the reading takes, are together of bulk at most 1048576: NARROWER than '..Said'. Prove '..Said' where nothing that the law and all that it calls make is longer than what came in: it says more and counts as full. Else prove '..UptoSaid'. A law counts once. -/
mutual
def uptoBulk {H : Type} : DataW H → Nat
  | .lit (.string bytes) => bytes.length + 1
  | .lit _ => 1
  | .nil => 1
  | .ptr d => uptoBulk d + 1
  | .slice elems spare => uptoBulkAll elems + uptoBulkAll spare + 1
  | .agg parts => uptoBulkAll parts + 1
  | .iface _ d => uptoBulk d + 1
  | .map entries => uptoBulkEntries entries + 1
  | .held _ => 1
def uptoBulkAll {H : Type} : List (DataW H) → Nat
  | [] => 0
  | d :: r => uptoBulk d + uptoBulkAll r
def uptoBulkEntries {H : Type} : List (Lit × DataW H) → Nat
  | [] => 0
  | x :: r => uptoBulkEntry x + uptoBulkEntries r
def uptoBulkEntry {H : Type} : Lit × DataW H → Nat
  | (.string bytes, d) => bytes.length + uptoBulk d + 1
  | (_, d) => uptoBulk d + 1
 end
def uptoSmall : (H : Type) → List (DataW H) → Bool := fun _ ds => decide (uptoBulkAll ds ≤ 1048576)
def OpenSpec.upto (s : _root_.Go.ChangeSpec) : _root_.Go.OpenSpec := { _root_.Go.OpenSpec.ofChange s with cond := some uptoSmall }

/-- 'marlinspikelaw15.PrioPoints', WHERE WHAT IT READS IS OF BULK AT MOST 1048576: true; the input reads as it did. -/
def prioPointsUptoRow : OpenClaim := { program := "ytmilcgfcmeahgaa", sum := "2d0e76e75b0f50afa89d31c7bd711bf2164cb207c39e1499c119862dd7b039ff", func := "marlinspike/marlinspikelaw15.PrioPoints", spec := "prioPoints", apart := false, narrowed := true }
def PrioPointsUptoSaid : Prop := prioPointsUptoRow.holds Try.pinned (OpenSpec.upto prioPointsSpec)

/-- 'marlinspikelaw15.PrioAge', WHERE WHAT IT READS IS OF BULK AT MOST 1048576: true; the input reads as it did. -/
def prioAgeUptoRow : OpenClaim := { program := "ytmilcgfcmeahgaa", sum := "2d0e76e75b0f50afa89d31c7bd711bf2164cb207c39e1499c119862dd7b039ff", func := "marlinspike/marlinspikelaw15.PrioAge", spec := "prioAge", apart := false, narrowed := true }
def PrioAgeUptoSaid : Prop := prioAgeUptoRow.holds Try.pinned (OpenSpec.upto prioAgeSpec)

/-- 'marlinspikelaw15.PrioOrder', WHERE WHAT IT READS IS OF BULK AT MOST 1048576: true; the input reads as it did. -/
def prioOrderUptoRow : OpenClaim := { program := "ytmilcgfcmeahgaa", sum := "2d0e76e75b0f50afa89d31c7bd711bf2164cb207c39e1499c119862dd7b039ff", func := "marlinspike/marlinspikelaw15.PrioOrder", spec := "prioOrder", apart := false, narrowed := true }
def PrioOrderUptoSaid : Prop := prioOrderUptoRow.holds Try.pinned (OpenSpec.upto prioOrderSpec)

/-- 'marlinspikelaw15.PrioAlone', WHERE WHAT IT READS IS OF BULK AT MOST 1048576: true; the input reads as it did. -/
def prioAloneUptoRow : OpenClaim := { program := "ytmilcgfcmeahgaa", sum := "2d0e76e75b0f50afa89d31c7bd711bf2164cb207c39e1499c119862dd7b039ff", func := "marlinspike/marlinspikelaw15.PrioAlone", spec := "prioAlone", apart := false, narrowed := true }
def PrioAloneUptoSaid : Prop := prioAloneUptoRow.holds Try.pinned (OpenSpec.upto prioAloneSpec)

end Rows
end Go.Proofs.Ytmilcgfcmeahgaa
