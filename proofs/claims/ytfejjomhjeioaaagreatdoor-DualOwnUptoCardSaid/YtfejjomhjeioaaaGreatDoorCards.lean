/-
  DERIVED. GIVEN WITH THE SEED: THE CARDS: each row of YtfejjomhjeioaaaGreatDoorRows.lean that lists a variable, with what it lists TIED to the program's text (the seventh form; the later family's looks); each row that meets fmt, with fmt's text TOLD by the authors' own Lean function (tested against real Go, not proved from fmt's source: count such statements apart). THE CARD IS WHAT COUNTS. Prove the row's statement (the work); the ties are given (YtfejjomhjeioaaaGreatDoorTie.lean); close each card by the builder's one call (the guide's Derived/Test/ToyasCard.lean, 'card_holds'). Laid BY PROGRAM, IN A SANDBOX (cutbox-door.mjs). By AI agents, Wed Nov 11 2026. No macro, syntax, notation, axiom, sorry.
-/
import Derived.Test.YtfejjomhjeioaaaGreatDoorRows
import GoSem.ClaimSeven
namespace Go.Proofs.YtfejjomhjeioaaaGreatDoor
namespace Rows

/-- THE TIED CARD OF 'chiasmuslaw11.DualForms'. -/
def dualFormsCard : Claim7 := { stood := { row := dualFormsRow, standIns := [], harness := (true, "bda26f52324a75d1e5db03f265be42ac9023163a558e4c9ede761fd1625bdcdb"), looks := true }, kinds := [], alts := [], laidByText := true, laidKinds := [.data, .data, .data, .sentinel, .sentinel, .data, .data], laidTests := true, laidLooks := .later }
def DualFormsCardSaid : Prop := Claim7.holds Tryz.pinned (.plain (OpenSpec.ofChange dualFormsSpec)) dualFormsCard

/-- THE TIED CARD OF 'chiasmuslaw11.DualOwn'. -/
def dualOwnCard : Claim7 := { stood := { row := dualOwnRow, standIns := [], harness := (true, "bda26f52324a75d1e5db03f265be42ac9023163a558e4c9ede761fd1625bdcdb"), looks := true }, kinds := [], alts := [], laidByText := true, laidKinds := [.data, .data, .data, .sentinel, .sentinel, .data, .data], laidTests := true, laidLooks := .later }
def DualOwnCardSaid : Prop := Claim7.holds Tryz.pinned (.plain (OpenSpec.ofChange dualOwnSpec)) dualOwnCard

/-- THE TIED CARD OF 'chiasmuslaw11.DualTwice'. -/
def dualTwiceCard : Claim7 := { stood := { row := dualTwiceRow, standIns := [], harness := (true, "bda26f52324a75d1e5db03f265be42ac9023163a558e4c9ede761fd1625bdcdb"), looks := true }, kinds := [], alts := [], laidByText := true, laidKinds := [.data, .data, .data, .sentinel, .sentinel, .data, .data], laidTests := true, laidLooks := .later }
def DualTwiceCardSaid : Prop := Claim7.holds Tryz.pinned (.plain (OpenSpec.ofChange dualTwiceSpec)) dualTwiceCard

/-- THE SECOND FORM's CARD OF 'chiasmuslaw11.DualForms'. -/
def dualFormsUptoCard : Claim7 := { stood := { row := dualFormsUptoRow, standIns := [], harness := (true, "bda26f52324a75d1e5db03f265be42ac9023163a558e4c9ede761fd1625bdcdb"), looks := true }, kinds := [], alts := [], laidByText := true, laidKinds := [.data, .data, .data, .sentinel, .sentinel, .data, .data], laidTests := true, laidLooks := .later }
def DualFormsUptoCardSaid : Prop := Claim7.holds Tryz.pinned (.plain (OpenSpec.upto dualFormsSpec)) dualFormsUptoCard

/-- THE SECOND FORM's CARD OF 'chiasmuslaw11.DualOwn'. -/
def dualOwnUptoCard : Claim7 := { stood := { row := dualOwnUptoRow, standIns := [], harness := (true, "bda26f52324a75d1e5db03f265be42ac9023163a558e4c9ede761fd1625bdcdb"), looks := true }, kinds := [], alts := [], laidByText := true, laidKinds := [.data, .data, .data, .sentinel, .sentinel, .data, .data], laidTests := true, laidLooks := .later }
def DualOwnUptoCardSaid : Prop := Claim7.holds Tryz.pinned (.plain (OpenSpec.upto dualOwnSpec)) dualOwnUptoCard

/-- THE SECOND FORM's CARD OF 'chiasmuslaw11.DualTwice'. -/
def dualTwiceUptoCard : Claim7 := { stood := { row := dualTwiceUptoRow, standIns := [], harness := (true, "bda26f52324a75d1e5db03f265be42ac9023163a558e4c9ede761fd1625bdcdb"), looks := true }, kinds := [], alts := [], laidByText := true, laidKinds := [.data, .data, .data, .sentinel, .sentinel, .data, .data], laidTests := true, laidLooks := .later }
def DualTwiceUptoCardSaid : Prop := Claim7.holds Tryz.pinned (.plain (OpenSpec.upto dualTwiceSpec)) dualTwiceUptoCard
end Rows
end Go.Proofs.YtfejjomhjeioaaaGreatDoor
