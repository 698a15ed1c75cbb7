/-
  DERIVED. GIVEN WITH THE SEED: THE CARDS: each row of YtdjfhggmcigahaaDoorRows.lean that lists a variable, with what it lists TIED to the program's text (the seventh form; the later family's looks); each row that meets fmt, with fmt's text TOLD by the authors' own Lean function (tested against real Go, not proved from fmt's source: count such statements apart). THE CARD IS WHAT COUNTS. Prove the row's statement (the work); the ties are given (YtdjfhggmcigahaaDoorTie.lean); close each card by the builder's one call (the guide's Derived/Test/ToyasCard.lean, 'card_holds'). Laid BY PROGRAM, IN A SANDBOX (cutbox-door.mjs). By AI agents, Wed Nov 11 2026. No macro, syntax, notation, axiom, sorry.
-/
import Derived.Test.YtdjfhggmcigahaaDoorRows
import GoSem.ClaimSeven
namespace Go.Proofs.YtdjfhggmcigahaaDoor
namespace Rows

/-- THE TIED CARD OF 'laws.FnExactFactText'. -/
def fnExactFactTextCard : Claim7 := { stood := { row := fnExactFactTextRow, standIns := [], harness := (true, "3c6d8defa5e17f917a3afe51bdba58f3e4fe1932ae231af4384d31fd8124974d"), looks := true }, kinds := [], alts := [], laidByText := true, laidKinds := [.data, .data, .data], laidTests := true, laidLooks := .later }
def FnExactFactTextCardSaid : Prop := Claim7.holds Tryd.pinned (.plain (OpenSpec.ofChange fnExactFactTextSpec)) fnExactFactTextCard

/-- THE TIED CARD OF 'laws.FnExactEventText'. -/
def fnExactEventTextCard : Claim7 := { stood := { row := fnExactEventTextRow, standIns := [], harness := (true, "3c6d8defa5e17f917a3afe51bdba58f3e4fe1932ae231af4384d31fd8124974d"), looks := true }, kinds := [], alts := [], laidByText := true, laidKinds := [.data, .data, .data], laidTests := true, laidLooks := .later }
def FnExactEventTextCardSaid : Prop := Claim7.holds Tryd.pinned (.plain (OpenSpec.ofChange fnExactEventTextSpec)) fnExactEventTextCard

/-- THE TIED CARD OF 'laws.FnExactEventTextRead'. -/
def fnExactEventTextReadCard : Claim7 := { stood := { row := fnExactEventTextReadRow, standIns := [], harness := (true, "3c6d8defa5e17f917a3afe51bdba58f3e4fe1932ae231af4384d31fd8124974d"), looks := true }, kinds := [], alts := [], laidByText := true, laidKinds := [.data, .data, .data, .data, .sentinel, .sentinel, .pinned], laidTests := true, laidLooks := .later }
def FnExactEventTextReadCardSaid : Prop := Claim7.holds Tryd.pinned (.plain (OpenSpec.ofChange fnExactEventTextReadSpec)) fnExactEventTextReadCard

/-- THE TIED CARD OF 'laws.FnEventBack'. -/
def fnEventBackCard : Claim7 := { stood := { row := fnEventBackRow, standIns := [], harness := (true, "3c6d8defa5e17f917a3afe51bdba58f3e4fe1932ae231af4384d31fd8124974d"), looks := true }, kinds := [], alts := [], laidByText := true, laidKinds := [.data, .data, .data, .data, .sentinel, .sentinel, .pinned], laidTests := true, laidLooks := .later }
def FnEventBackCardSaid : Prop := Claim7.holds Tryd.pinned (.plain (OpenSpec.ofChange fnEventBackSpec)) fnEventBackCard

/-- THE SECOND FORM's CARD OF 'laws.FnExactFactText'. -/
def fnExactFactTextUptoCard : Claim7 := { stood := { row := fnExactFactTextUptoRow, standIns := [], harness := (true, "3c6d8defa5e17f917a3afe51bdba58f3e4fe1932ae231af4384d31fd8124974d"), looks := true }, kinds := [], alts := [], laidByText := true, laidKinds := [.data, .data, .data], laidTests := true, laidLooks := .later }
def FnExactFactTextUptoCardSaid : Prop := Claim7.holds Tryd.pinned (.plain (OpenSpec.upto fnExactFactTextSpec)) fnExactFactTextUptoCard

/-- THE SECOND FORM's CARD OF 'laws.FnExactEventText'. -/
def fnExactEventTextUptoCard : Claim7 := { stood := { row := fnExactEventTextUptoRow, standIns := [], harness := (true, "3c6d8defa5e17f917a3afe51bdba58f3e4fe1932ae231af4384d31fd8124974d"), looks := true }, kinds := [], alts := [], laidByText := true, laidKinds := [.data, .data, .data], laidTests := true, laidLooks := .later }
def FnExactEventTextUptoCardSaid : Prop := Claim7.holds Tryd.pinned (.plain (OpenSpec.upto fnExactEventTextSpec)) fnExactEventTextUptoCard

/-- THE SECOND FORM's CARD OF 'laws.FnExactEventTextRead'. -/
def fnExactEventTextReadUptoCard : Claim7 := { stood := { row := fnExactEventTextReadUptoRow, standIns := [], harness := (true, "3c6d8defa5e17f917a3afe51bdba58f3e4fe1932ae231af4384d31fd8124974d"), looks := true }, kinds := [], alts := [], laidByText := true, laidKinds := [.data, .data, .data, .data, .sentinel, .sentinel, .pinned], laidTests := true, laidLooks := .later }
def FnExactEventTextReadUptoCardSaid : Prop := Claim7.holds Tryd.pinned (.plain (OpenSpec.upto fnExactEventTextReadSpec)) fnExactEventTextReadUptoCard

/-- THE SECOND FORM's CARD OF 'laws.FnEventBack'. -/
def fnEventBackUptoCard : Claim7 := { stood := { row := fnEventBackUptoRow, standIns := [], harness := (true, "3c6d8defa5e17f917a3afe51bdba58f3e4fe1932ae231af4384d31fd8124974d"), looks := true }, kinds := [], alts := [], laidByText := true, laidKinds := [.data, .data, .data, .data, .sentinel, .sentinel, .pinned], laidTests := true, laidLooks := .later }
def FnEventBackUptoCardSaid : Prop := Claim7.holds Tryd.pinned (.plain (OpenSpec.upto fnEventBackSpec)) fnEventBackUptoCard
end Rows
end Go.Proofs.YtdjfhggmcigahaaDoor
