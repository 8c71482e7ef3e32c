/-
  DERIVED. GIVEN WITH THE SEED: THE CARDS: each row of YtmhbblkihjmonaaDoorRows.lean that lists a variable, with what it lists TIED to the program's text (the seventh form; the later family's looks); each row that meets fmt, with fmt's text TOLD by the authors' own Lean function (tested against real Go, not proved from fmt's source: count such statements apart). THE CARD IS WHAT COUNTS. Prove the row's statement (the work); the ties are given (YtmhbblkihjmonaaDoorTie.lean); close each card by the builder's one call (the guide's Derived/Test/ToyasCard.lean, 'card_holds'). Laid BY PROGRAM, IN A SANDBOX (cutbox-door.mjs). By AI agents, Wed Nov 11 2026. No macro, syntax, notation, axiom, sorry.
-/
import Derived.Test.YtmhbblkihjmonaaDoorRows
import GoSem.ClaimSeven
namespace Go.Proofs.YtmhbblkihjmonaaDoor
namespace Rows

/-- THE TIED CARD OF 'marlinspikelaw01.BitsTwo'. -/
def bitsTwoCard : Claim7 := { stood := { row := bitsTwoRow, standIns := [], harness := (true, "12766086b79a397955935a222f0e59db68288b8f4d01ad0d1fdd8487b9674654"), looks := false }, kinds := [], alts := [], laidByText := true, laidKinds := [.data], laidTests := true, laidLooks := .later }
def BitsTwoCardSaid : Prop := Claim7.holds Tryd.pinned (.plain (OpenSpec.ofChange bitsTwoSpec)) bitsTwoCard

/-- THE TIED CARD OF 'marlinspikelaw01.BitsParts'. -/
def bitsPartsCard : Claim7 := { stood := { row := bitsPartsRow, standIns := [], harness := (true, "12766086b79a397955935a222f0e59db68288b8f4d01ad0d1fdd8487b9674654"), looks := false }, kinds := [], alts := [], laidByText := true, laidKinds := [.data], laidTests := true, laidLooks := .later }
def BitsPartsCardSaid : Prop := Claim7.holds Tryd.pinned (.plain (OpenSpec.ofChange bitsPartsSpec)) bitsPartsCard

/-- THE TIED CARD OF 'marlinspikelaw01.BitsOf'. -/
def bitsOfCard : Claim7 := { stood := { row := bitsOfRow, standIns := [], harness := (true, "12766086b79a397955935a222f0e59db68288b8f4d01ad0d1fdd8487b9674654"), looks := false }, kinds := [], alts := [], laidByText := true, laidKinds := [.data], laidTests := true, laidLooks := .later }
def BitsOfCardSaid : Prop := Claim7.holds Tryd.pinned (.plain (OpenSpec.ofChange bitsOfSpec)) bitsOfCard

/-- THE TIED CARD OF 'marlinspikelaw01.BitsMoves'. -/
def bitsMovesCard : Claim7 := { stood := { row := bitsMovesRow, standIns := [], harness := (true, "12766086b79a397955935a222f0e59db68288b8f4d01ad0d1fdd8487b9674654"), looks := false }, kinds := [], alts := [], laidByText := true, laidKinds := [.data], laidTests := true, laidLooks := .later }
def BitsMovesCardSaid : Prop := Claim7.holds Tryd.pinned (.plain (OpenSpec.ofChange bitsMovesSpec)) bitsMovesCard

/-- THE TIED CARD OF 'marlinspikelaw01.BitsLists'. -/
def bitsListsCard : Claim7 := { stood := { row := bitsListsRow, standIns := [], harness := (true, "12766086b79a397955935a222f0e59db68288b8f4d01ad0d1fdd8487b9674654"), looks := false }, kinds := [], alts := [], laidByText := true, laidKinds := [.data], laidTests := true, laidLooks := .later }
def BitsListsCardSaid : Prop := Claim7.holds Tryd.pinned (.plain (OpenSpec.ofChange bitsListsSpec)) bitsListsCard

/-- THE TIED CARD OF 'marlinspikelaw01.BitsFirst'. -/
def bitsFirstCard : Claim7 := { stood := { row := bitsFirstRow, standIns := [], harness := (true, "12766086b79a397955935a222f0e59db68288b8f4d01ad0d1fdd8487b9674654"), looks := false }, kinds := [], alts := [], laidByText := true, laidKinds := [.data], laidTests := true, laidLooks := .later }
def BitsFirstCardSaid : Prop := Claim7.holds Tryd.pinned (.plain (OpenSpec.ofChange bitsFirstSpec)) bitsFirstCard

/-- THE TIED CARD OF 'marlinspikelaw19.ScaleDecides'. -/
def scaleDecidesCard : Claim7 := { stood := { row := scaleDecidesRow, standIns := [], harness := (true, "12766086b79a397955935a222f0e59db68288b8f4d01ad0d1fdd8487b9674654"), looks := false }, kinds := [], alts := [], laidByText := true, laidKinds := [.data], laidTests := true, laidLooks := .later }
def ScaleDecidesCardSaid : Prop := Claim7.holds Tryd.pinned (.plain (OpenSpec.ofChange scaleDecidesSpec)) scaleDecidesCard

/-- THE TIED CARD OF 'marlinspikelaw19.ScaleKeeps'. -/
def scaleKeepsCard : Claim7 := { stood := { row := scaleKeepsRow, standIns := [], harness := (true, "12766086b79a397955935a222f0e59db68288b8f4d01ad0d1fdd8487b9674654"), looks := false }, kinds := [], alts := [], laidByText := true, laidKinds := [.data], laidTests := true, laidLooks := .later }
def ScaleKeepsCardSaid : Prop := Claim7.holds Tryd.pinned (.plain (OpenSpec.ofChange scaleKeepsSpec)) scaleKeepsCard

/-- THE TIED CARD OF 'marlinspikelaw19.ScaleCap'. -/
def scaleCapCard : Claim7 := { stood := { row := scaleCapRow, standIns := [], harness := (true, "12766086b79a397955935a222f0e59db68288b8f4d01ad0d1fdd8487b9674654"), looks := false }, kinds := [], alts := [], laidByText := true, laidKinds := [.data], laidTests := true, laidLooks := .later }
def ScaleCapCardSaid : Prop := Claim7.holds Tryd.pinned (.plain (OpenSpec.ofChange scaleCapSpec)) scaleCapCard

/-- THE TIED CARD OF 'marlinspikelaw01.BitsBack'. -/
def bitsBackCard : Claim7 := { stood := { row := bitsBackRow, standIns := [], harness := (true, "12766086b79a397955935a222f0e59db68288b8f4d01ad0d1fdd8487b9674654"), looks := false }, kinds := [], alts := [], laidByText := true, laidKinds := [.data], laidTests := true, laidLooks := .later }
def BitsBackCardSaid : Prop := Claim7.holds Tryd.pinned (.plain (OpenSpec.ofChange bitsBackSpec)) bitsBackCard

/-- THE TIED CARD OF 'marlinspikelaw19.ScaleGoes'. -/
def scaleGoesCard : Claim7 := { stood := { row := scaleGoesRow, standIns := [], harness := (true, "12766086b79a397955935a222f0e59db68288b8f4d01ad0d1fdd8487b9674654"), looks := false }, kinds := [], alts := [], laidByText := true, laidKinds := [.data], laidTests := true, laidLooks := .later }
def ScaleGoesCardSaid : Prop := Claim7.holds Tryd.pinned (.plain (OpenSpec.ofChange scaleGoesSpec)) scaleGoesCard

/-- THE TIED CARD OF 'marlinspikelaw19.ScaleRests'. -/
def scaleRestsCard : Claim7 := { stood := { row := scaleRestsRow, standIns := [], harness := (true, "12766086b79a397955935a222f0e59db68288b8f4d01ad0d1fdd8487b9674654"), looks := false }, kinds := [], alts := [], laidByText := true, laidKinds := [.data], laidTests := true, laidLooks := .later }
def ScaleRestsCardSaid : Prop := Claim7.holds Tryd.pinned (.plain (OpenSpec.ofChange scaleRestsSpec)) scaleRestsCard

/-- THE TIED CARD OF 'marlinspikelaw19.ScaleLeast'. -/
def scaleLeastCard : Claim7 := { stood := { row := scaleLeastRow, standIns := [], harness := (true, "12766086b79a397955935a222f0e59db68288b8f4d01ad0d1fdd8487b9674654"), looks := false }, kinds := [], alts := [], laidByText := true, laidKinds := [.data], laidTests := true, laidLooks := .later }
def ScaleLeastCardSaid : Prop := Claim7.holds Tryd.pinned (.plain (OpenSpec.ofChange scaleLeastSpec)) scaleLeastCard

/-- THE TIED CARD OF 'marlinspikelaw19.ScaleWanted'. -/
def scaleWantedCard : Claim7 := { stood := { row := scaleWantedRow, standIns := [], harness := (true, "12766086b79a397955935a222f0e59db68288b8f4d01ad0d1fdd8487b9674654"), looks := false }, kinds := [], alts := [], laidByText := true, laidKinds := [.data], laidTests := true, laidLooks := .later }
def ScaleWantedCardSaid : Prop := Claim7.holds Tryd.pinned (.plain (OpenSpec.ofChange scaleWantedSpec)) scaleWantedCard

/-- THE SECOND FORM's CARD OF 'marlinspikelaw01.BitsTwo'. -/
def bitsTwoUptoCard : Claim7 := { stood := { row := bitsTwoUptoRow, standIns := [], harness := (true, "12766086b79a397955935a222f0e59db68288b8f4d01ad0d1fdd8487b9674654"), looks := false }, kinds := [], alts := [], laidByText := true, laidKinds := [.data], laidTests := true, laidLooks := .later }
def BitsTwoUptoCardSaid : Prop := Claim7.holds Tryd.pinned (.plain (OpenSpec.upto bitsTwoSpec)) bitsTwoUptoCard

/-- THE SECOND FORM's CARD OF 'marlinspikelaw01.BitsParts'. -/
def bitsPartsUptoCard : Claim7 := { stood := { row := bitsPartsUptoRow, standIns := [], harness := (true, "12766086b79a397955935a222f0e59db68288b8f4d01ad0d1fdd8487b9674654"), looks := false }, kinds := [], alts := [], laidByText := true, laidKinds := [.data], laidTests := true, laidLooks := .later }
def BitsPartsUptoCardSaid : Prop := Claim7.holds Tryd.pinned (.plain (OpenSpec.upto bitsPartsSpec)) bitsPartsUptoCard

/-- THE SECOND FORM's CARD OF 'marlinspikelaw01.BitsOf'. -/
def bitsOfUptoCard : Claim7 := { stood := { row := bitsOfUptoRow, standIns := [], harness := (true, "12766086b79a397955935a222f0e59db68288b8f4d01ad0d1fdd8487b9674654"), looks := false }, kinds := [], alts := [], laidByText := true, laidKinds := [.data], laidTests := true, laidLooks := .later }
def BitsOfUptoCardSaid : Prop := Claim7.holds Tryd.pinned (.plain (OpenSpec.upto bitsOfSpec)) bitsOfUptoCard

/-- THE SECOND FORM's CARD OF 'marlinspikelaw01.BitsMoves'. -/
def bitsMovesUptoCard : Claim7 := { stood := { row := bitsMovesUptoRow, standIns := [], harness := (true, "12766086b79a397955935a222f0e59db68288b8f4d01ad0d1fdd8487b9674654"), looks := false }, kinds := [], alts := [], laidByText := true, laidKinds := [.data], laidTests := true, laidLooks := .later }
def BitsMovesUptoCardSaid : Prop := Claim7.holds Tryd.pinned (.plain (OpenSpec.upto bitsMovesSpec)) bitsMovesUptoCard

/-- THE SECOND FORM's CARD OF 'marlinspikelaw01.BitsLists'. -/
def bitsListsUptoCard : Claim7 := { stood := { row := bitsListsUptoRow, standIns := [], harness := (true, "12766086b79a397955935a222f0e59db68288b8f4d01ad0d1fdd8487b9674654"), looks := false }, kinds := [], alts := [], laidByText := true, laidKinds := [.data], laidTests := true, laidLooks := .later }
def BitsListsUptoCardSaid : Prop := Claim7.holds Tryd.pinned (.plain (OpenSpec.upto bitsListsSpec)) bitsListsUptoCard

/-- THE SECOND FORM's CARD OF 'marlinspikelaw01.BitsFirst'. -/
def bitsFirstUptoCard : Claim7 := { stood := { row := bitsFirstUptoRow, standIns := [], harness := (true, "12766086b79a397955935a222f0e59db68288b8f4d01ad0d1fdd8487b9674654"), looks := false }, kinds := [], alts := [], laidByText := true, laidKinds := [.data], laidTests := true, laidLooks := .later }
def BitsFirstUptoCardSaid : Prop := Claim7.holds Tryd.pinned (.plain (OpenSpec.upto bitsFirstSpec)) bitsFirstUptoCard

/-- THE SECOND FORM's CARD OF 'marlinspikelaw19.ScaleDecides'. -/
def scaleDecidesUptoCard : Claim7 := { stood := { row := scaleDecidesUptoRow, standIns := [], harness := (true, "12766086b79a397955935a222f0e59db68288b8f4d01ad0d1fdd8487b9674654"), looks := false }, kinds := [], alts := [], laidByText := true, laidKinds := [.data], laidTests := true, laidLooks := .later }
def ScaleDecidesUptoCardSaid : Prop := Claim7.holds Tryd.pinned (.plain (OpenSpec.upto scaleDecidesSpec)) scaleDecidesUptoCard

/-- THE SECOND FORM's CARD OF 'marlinspikelaw19.ScaleKeeps'. -/
def scaleKeepsUptoCard : Claim7 := { stood := { row := scaleKeepsUptoRow, standIns := [], harness := (true, "12766086b79a397955935a222f0e59db68288b8f4d01ad0d1fdd8487b9674654"), looks := false }, kinds := [], alts := [], laidByText := true, laidKinds := [.data], laidTests := true, laidLooks := .later }
def ScaleKeepsUptoCardSaid : Prop := Claim7.holds Tryd.pinned (.plain (OpenSpec.upto scaleKeepsSpec)) scaleKeepsUptoCard

/-- THE SECOND FORM's CARD OF 'marlinspikelaw19.ScaleCap'. -/
def scaleCapUptoCard : Claim7 := { stood := { row := scaleCapUptoRow, standIns := [], harness := (true, "12766086b79a397955935a222f0e59db68288b8f4d01ad0d1fdd8487b9674654"), looks := false }, kinds := [], alts := [], laidByText := true, laidKinds := [.data], laidTests := true, laidLooks := .later }
def ScaleCapUptoCardSaid : Prop := Claim7.holds Tryd.pinned (.plain (OpenSpec.upto scaleCapSpec)) scaleCapUptoCard

/-- THE SECOND FORM's CARD OF 'marlinspikelaw01.BitsBack'. -/
def bitsBackUptoCard : Claim7 := { stood := { row := bitsBackUptoRow, standIns := [], harness := (true, "12766086b79a397955935a222f0e59db68288b8f4d01ad0d1fdd8487b9674654"), looks := false }, kinds := [], alts := [], laidByText := true, laidKinds := [.data], laidTests := true, laidLooks := .later }
def BitsBackUptoCardSaid : Prop := Claim7.holds Tryd.pinned (.plain (OpenSpec.upto bitsBackSpec)) bitsBackUptoCard

/-- THE SECOND FORM's CARD OF 'marlinspikelaw19.ScaleGoes'. -/
def scaleGoesUptoCard : Claim7 := { stood := { row := scaleGoesUptoRow, standIns := [], harness := (true, "12766086b79a397955935a222f0e59db68288b8f4d01ad0d1fdd8487b9674654"), looks := false }, kinds := [], alts := [], laidByText := true, laidKinds := [.data], laidTests := true, laidLooks := .later }
def ScaleGoesUptoCardSaid : Prop := Claim7.holds Tryd.pinned (.plain (OpenSpec.upto scaleGoesSpec)) scaleGoesUptoCard

/-- THE SECOND FORM's CARD OF 'marlinspikelaw19.ScaleRests'. -/
def scaleRestsUptoCard : Claim7 := { stood := { row := scaleRestsUptoRow, standIns := [], harness := (true, "12766086b79a397955935a222f0e59db68288b8f4d01ad0d1fdd8487b9674654"), looks := false }, kinds := [], alts := [], laidByText := true, laidKinds := [.data], laidTests := true, laidLooks := .later }
def ScaleRestsUptoCardSaid : Prop := Claim7.holds Tryd.pinned (.plain (OpenSpec.upto scaleRestsSpec)) scaleRestsUptoCard

/-- THE SECOND FORM's CARD OF 'marlinspikelaw19.ScaleLeast'. -/
def scaleLeastUptoCard : Claim7 := { stood := { row := scaleLeastUptoRow, standIns := [], harness := (true, "12766086b79a397955935a222f0e59db68288b8f4d01ad0d1fdd8487b9674654"), looks := false }, kinds := [], alts := [], laidByText := true, laidKinds := [.data], laidTests := true, laidLooks := .later }
def ScaleLeastUptoCardSaid : Prop := Claim7.holds Tryd.pinned (.plain (OpenSpec.upto scaleLeastSpec)) scaleLeastUptoCard

/-- THE SECOND FORM's CARD OF 'marlinspikelaw19.ScaleWanted'. -/
def scaleWantedUptoCard : Claim7 := { stood := { row := scaleWantedUptoRow, standIns := [], harness := (true, "12766086b79a397955935a222f0e59db68288b8f4d01ad0d1fdd8487b9674654"), looks := false }, kinds := [], alts := [], laidByText := true, laidKinds := [.data], laidTests := true, laidLooks := .later }
def ScaleWantedUptoCardSaid : Prop := Claim7.holds Tryd.pinned (.plain (OpenSpec.upto scaleWantedSpec)) scaleWantedUptoCard
end Rows
end Go.Proofs.YtmhbblkihjmonaaDoor
