/-
  DERIVED. GIVEN WITH THE SEED: THE CARDS: each row of YtkgdcicaokekfaaDoorRows.lean that lists a variable, with what it lists TIED to the program's text (the seventh form; the later family's looks); each row that meets fmt, with fmt's text TOLD by the authors' own Lean function (tested against real Go, not proved from fmt's source: count such statements apart). THE CARD IS WHAT COUNTS. Prove the row's statement (the work); the ties are given (YtkgdcicaokekfaaDoorTie.lean); close each card by the builder's one call (the guide's Derived/Test/ToyasCard.lean, 'card_holds'). Laid BY PROGRAM, IN A SANDBOX (cutbox-door.mjs). By AI agents, Wed Nov 11 2026. No macro, syntax, notation, axiom, sorry.
-/
import Derived.Test.YtkgdcicaokekfaaDoorRows
import GoSem.ClaimSeven
namespace Go.Proofs.YtkgdcicaokekfaaDoor
namespace Rows

/-- THE TIED CARD OF 'marlinspikelaw16.ProfMore'. -/
def profMoreCard : Claim7 := { stood := { row := profMoreRow, standIns := [], harness := (true, "7b094b25138814e054424811f3952e88178c7e2fb4263d3bd4873725e780de94"), looks := false }, kinds := [], alts := [], laidByText := true, laidKinds := [.data], laidTests := true, laidLooks := .later }
def ProfMoreCardSaid : Prop := Claim7.holds Tryd.pinned (.plain (OpenSpec.ofChange profMoreSpec)) profMoreCard

/-- THE TIED CARD OF 'marlinspikelaw16.ProfNone'. -/
def profNoneCard : Claim7 := { stood := { row := profNoneRow, standIns := [], harness := (true, "7b094b25138814e054424811f3952e88178c7e2fb4263d3bd4873725e780de94"), looks := false }, kinds := [], alts := [], laidByText := true, laidKinds := [.data], laidTests := true, laidLooks := .later }
def ProfNoneCardSaid : Prop := Claim7.holds Tryd.pinned (.plain (OpenSpec.ofChange profNoneSpec)) profNoneCard

/-- THE TIED CARD OF 'marlinspikelaw16.ProfTaken'. -/
def profTakenCard : Claim7 := { stood := { row := profTakenRow, standIns := [], harness := (true, "7b094b25138814e054424811f3952e88178c7e2fb4263d3bd4873725e780de94"), looks := false }, kinds := [], alts := [], laidByText := true, laidKinds := [.data], laidTests := true, laidLooks := .later }
def ProfTakenCardSaid : Prop := Claim7.holds Tryd.pinned (.plain (OpenSpec.ofChange profTakenSpec)) profTakenCard

/-- THE TIED CARD OF 'marlinspikelaw16.ProfBack'. -/
def profBackCard : Claim7 := { stood := { row := profBackRow, standIns := [], harness := (true, "7b094b25138814e054424811f3952e88178c7e2fb4263d3bd4873725e780de94"), looks := false }, kinds := [], alts := [], laidByText := true, laidKinds := [.data], laidTests := true, laidLooks := .later }
def ProfBackCardSaid : Prop := Claim7.holds Tryd.pinned (.plain (OpenSpec.ofChange profBackSpec)) profBackCard

/-- THE TIED CARD OF 'marlinspikelaw16.ProfNobody'. -/
def profNobodyCard : Claim7 := { stood := { row := profNobodyRow, standIns := [], harness := (true, "7b094b25138814e054424811f3952e88178c7e2fb4263d3bd4873725e780de94"), looks := false }, kinds := [], alts := [], laidByText := true, laidKinds := [.data], laidTests := true, laidLooks := .later }
def ProfNobodyCardSaid : Prop := Claim7.holds Tryd.pinned (.plain (OpenSpec.ofChange profNobodySpec)) profNobodyCard

/-- THE SECOND FORM's CARD OF 'marlinspikelaw16.ProfMore'. -/
def profMoreUptoCard : Claim7 := { stood := { row := profMoreUptoRow, standIns := [], harness := (true, "7b094b25138814e054424811f3952e88178c7e2fb4263d3bd4873725e780de94"), looks := false }, kinds := [], alts := [], laidByText := true, laidKinds := [.data], laidTests := true, laidLooks := .later }
def ProfMoreUptoCardSaid : Prop := Claim7.holds Tryd.pinned (.plain (OpenSpec.upto profMoreSpec)) profMoreUptoCard

/-- THE SECOND FORM's CARD OF 'marlinspikelaw16.ProfNone'. -/
def profNoneUptoCard : Claim7 := { stood := { row := profNoneUptoRow, standIns := [], harness := (true, "7b094b25138814e054424811f3952e88178c7e2fb4263d3bd4873725e780de94"), looks := false }, kinds := [], alts := [], laidByText := true, laidKinds := [.data], laidTests := true, laidLooks := .later }
def ProfNoneUptoCardSaid : Prop := Claim7.holds Tryd.pinned (.plain (OpenSpec.upto profNoneSpec)) profNoneUptoCard

/-- THE SECOND FORM's CARD OF 'marlinspikelaw16.ProfTaken'. -/
def profTakenUptoCard : Claim7 := { stood := { row := profTakenUptoRow, standIns := [], harness := (true, "7b094b25138814e054424811f3952e88178c7e2fb4263d3bd4873725e780de94"), looks := false }, kinds := [], alts := [], laidByText := true, laidKinds := [.data], laidTests := true, laidLooks := .later }
def ProfTakenUptoCardSaid : Prop := Claim7.holds Tryd.pinned (.plain (OpenSpec.upto profTakenSpec)) profTakenUptoCard

/-- THE SECOND FORM's CARD OF 'marlinspikelaw16.ProfBack'. -/
def profBackUptoCard : Claim7 := { stood := { row := profBackUptoRow, standIns := [], harness := (true, "7b094b25138814e054424811f3952e88178c7e2fb4263d3bd4873725e780de94"), looks := false }, kinds := [], alts := [], laidByText := true, laidKinds := [.data], laidTests := true, laidLooks := .later }
def ProfBackUptoCardSaid : Prop := Claim7.holds Tryd.pinned (.plain (OpenSpec.upto profBackSpec)) profBackUptoCard

/-- THE SECOND FORM's CARD OF 'marlinspikelaw16.ProfNobody'. -/
def profNobodyUptoCard : Claim7 := { stood := { row := profNobodyUptoRow, standIns := [], harness := (true, "7b094b25138814e054424811f3952e88178c7e2fb4263d3bd4873725e780de94"), looks := false }, kinds := [], alts := [], laidByText := true, laidKinds := [.data], laidTests := true, laidLooks := .later }
def ProfNobodyUptoCardSaid : Prop := Claim7.holds Tryd.pinned (.plain (OpenSpec.upto profNobodySpec)) profNobodyUptoCard
end Rows
end Go.Proofs.YtkgdcicaokekfaaDoor
