/-
  DERIVED. GIVEN WITH THE SEED: THE CARDS: each row of YtkgphbjneaagoaaDoorRows.lean that lists a variable, with what it lists TIED to the program's text (the seventh form; the later family's looks); each row that meets fmt, with fmt's text TOLD by the authors' own Lean function (tested against real Go, not proved from fmt's source: count such statements apart). THE CARD IS WHAT COUNTS. Prove the row's statement (the work); the ties are given (YtkgphbjneaagoaaDoorTie.lean); close each card by the builder's one call (the guide's Derived/Test/ToyasCard.lean, 'card_holds'). Laid BY PROGRAM, IN A SANDBOX (cutbox-door.mjs). By AI agents, Wed Nov 11 2026. No macro, syntax, notation, axiom, sorry.
-/
import Derived.Test.YtkgphbjneaagoaaDoorRows
import GoSem.ClaimSeven
namespace Go.Proofs.YtkgphbjneaagoaaDoor
namespace Rows

/-- THE TIED CARD OF 'marlinspikelaw18.BackPasses'. -/
def backPassesCard : Claim7 := { stood := { row := backPassesRow, standIns := [], harness := (true, "1c47627a14bfb7835dd209c6e2fbf2105bc58bee132f5d98fd1c8ae6d92c0f4d"), looks := false }, kinds := [], alts := [], laidByText := true, laidKinds := [.data], laidTests := true, laidLooks := .later }
def BackPassesCardSaid : Prop := Claim7.holds Tryd.pinned (.plain (OpenSpec.ofChange backPassesSpec)) backPassesCard

/-- THE TIED CARD OF 'marlinspikelaw18.BackApart'. -/
def backApartCard : Claim7 := { stood := { row := backApartRow, standIns := [], harness := (true, "1c47627a14bfb7835dd209c6e2fbf2105bc58bee132f5d98fd1c8ae6d92c0f4d"), looks := false }, kinds := [], alts := [], laidByText := true, laidKinds := [.data], laidTests := true, laidLooks := .later }
def BackApartCardSaid : Prop := Claim7.holds Tryd.pinned (.plain (OpenSpec.ofChange backApartSpec)) backApartCard

/-- THE TIED CARD OF 'marlinspikelaw18.BackAlone'. -/
def backAloneCard : Claim7 := { stood := { row := backAloneRow, standIns := [], harness := (true, "1c47627a14bfb7835dd209c6e2fbf2105bc58bee132f5d98fd1c8ae6d92c0f4d"), looks := false }, kinds := [], alts := [], laidByText := true, laidKinds := [.data], laidTests := true, laidLooks := .later }
def BackAloneCardSaid : Prop := Claim7.holds Tryd.pinned (.plain (OpenSpec.ofChange backAloneSpec)) backAloneCard

/-- THE TIED CARD OF 'marlinspikelaw18.BackAll'. -/
def backAllCard : Claim7 := { stood := { row := backAllRow, standIns := [], harness := (true, "1c47627a14bfb7835dd209c6e2fbf2105bc58bee132f5d98fd1c8ae6d92c0f4d"), looks := false }, kinds := [], alts := [], laidByText := true, laidKinds := [.data], laidTests := true, laidLooks := .later }
def BackAllCardSaid : Prop := Claim7.holds Tryd.pinned (.plain (OpenSpec.ofChange backAllSpec)) backAllCard

/-- THE TIED CARD OF 'marlinspikelaw18.BackHeads'. -/
def backHeadsCard : Claim7 := { stood := { row := backHeadsRow, standIns := [], harness := (true, "1c47627a14bfb7835dd209c6e2fbf2105bc58bee132f5d98fd1c8ae6d92c0f4d"), looks := false }, kinds := [], alts := [], laidByText := true, laidKinds := [.data], laidTests := true, laidLooks := .later }
def BackHeadsCardSaid : Prop := Claim7.holds Tryd.pinned (.plain (OpenSpec.ofChange backHeadsSpec)) backHeadsCard

/-- THE TIED CARD OF 'marlinspikelaw18.BackHolds'. -/
def backHoldsCard : Claim7 := { stood := { row := backHoldsRow, standIns := [], harness := (true, "1c47627a14bfb7835dd209c6e2fbf2105bc58bee132f5d98fd1c8ae6d92c0f4d"), looks := false }, kinds := [], alts := [], laidByText := true, laidKinds := [.data], laidTests := true, laidLooks := .later }
def BackHoldsCardSaid : Prop := Claim7.holds Tryd.pinned (.plain (OpenSpec.ofChange backHoldsSpec)) backHoldsCard

/-- THE SECOND FORM's CARD OF 'marlinspikelaw18.BackPasses'. -/
def backPassesUptoCard : Claim7 := { stood := { row := backPassesUptoRow, standIns := [], harness := (true, "1c47627a14bfb7835dd209c6e2fbf2105bc58bee132f5d98fd1c8ae6d92c0f4d"), looks := false }, kinds := [], alts := [], laidByText := true, laidKinds := [.data], laidTests := true, laidLooks := .later }
def BackPassesUptoCardSaid : Prop := Claim7.holds Tryd.pinned (.plain (OpenSpec.upto backPassesSpec)) backPassesUptoCard

/-- THE SECOND FORM's CARD OF 'marlinspikelaw18.BackApart'. -/
def backApartUptoCard : Claim7 := { stood := { row := backApartUptoRow, standIns := [], harness := (true, "1c47627a14bfb7835dd209c6e2fbf2105bc58bee132f5d98fd1c8ae6d92c0f4d"), looks := false }, kinds := [], alts := [], laidByText := true, laidKinds := [.data], laidTests := true, laidLooks := .later }
def BackApartUptoCardSaid : Prop := Claim7.holds Tryd.pinned (.plain (OpenSpec.upto backApartSpec)) backApartUptoCard

/-- THE SECOND FORM's CARD OF 'marlinspikelaw18.BackAlone'. -/
def backAloneUptoCard : Claim7 := { stood := { row := backAloneUptoRow, standIns := [], harness := (true, "1c47627a14bfb7835dd209c6e2fbf2105bc58bee132f5d98fd1c8ae6d92c0f4d"), looks := false }, kinds := [], alts := [], laidByText := true, laidKinds := [.data], laidTests := true, laidLooks := .later }
def BackAloneUptoCardSaid : Prop := Claim7.holds Tryd.pinned (.plain (OpenSpec.upto backAloneSpec)) backAloneUptoCard

/-- THE SECOND FORM's CARD OF 'marlinspikelaw18.BackAll'. -/
def backAllUptoCard : Claim7 := { stood := { row := backAllUptoRow, standIns := [], harness := (true, "1c47627a14bfb7835dd209c6e2fbf2105bc58bee132f5d98fd1c8ae6d92c0f4d"), looks := false }, kinds := [], alts := [], laidByText := true, laidKinds := [.data], laidTests := true, laidLooks := .later }
def BackAllUptoCardSaid : Prop := Claim7.holds Tryd.pinned (.plain (OpenSpec.upto backAllSpec)) backAllUptoCard

/-- THE SECOND FORM's CARD OF 'marlinspikelaw18.BackHeads'. -/
def backHeadsUptoCard : Claim7 := { stood := { row := backHeadsUptoRow, standIns := [], harness := (true, "1c47627a14bfb7835dd209c6e2fbf2105bc58bee132f5d98fd1c8ae6d92c0f4d"), looks := false }, kinds := [], alts := [], laidByText := true, laidKinds := [.data], laidTests := true, laidLooks := .later }
def BackHeadsUptoCardSaid : Prop := Claim7.holds Tryd.pinned (.plain (OpenSpec.upto backHeadsSpec)) backHeadsUptoCard

/-- THE SECOND FORM's CARD OF 'marlinspikelaw18.BackHolds'. -/
def backHoldsUptoCard : Claim7 := { stood := { row := backHoldsUptoRow, standIns := [], harness := (true, "1c47627a14bfb7835dd209c6e2fbf2105bc58bee132f5d98fd1c8ae6d92c0f4d"), looks := false }, kinds := [], alts := [], laidByText := true, laidKinds := [.data], laidTests := true, laidLooks := .later }
def BackHoldsUptoCardSaid : Prop := Claim7.holds Tryd.pinned (.plain (OpenSpec.upto backHoldsSpec)) backHoldsUptoCard
end Rows
end Go.Proofs.YtkgphbjneaagoaaDoor
