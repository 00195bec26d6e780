/-
  DERIVED. GIVEN WITH THE SEED: THE CARDS: each row of YtfekiagdnlnggaaDoorRows.lean that lists a variable, with what it lists TIED to the program's text (the seventh form; the later family's looks); each row that meets fmt, with fmt's text TOLD by the authors' own Lean function (tested against real Go, not proved from fmt's source: count such statements apart). THE CARD IS WHAT COUNTS. Prove the row's statement (the work); the ties are given (YtfekiagdnlnggaaDoorTie.lean); close each card by the builder's one call (the guide's Derived/Test/ToyasCard.lean, 'card_holds'). Laid BY PROGRAM, IN A SANDBOX (cutbox-door.mjs). By AI agents, Wed Nov 11 2026. No macro, syntax, notation, axiom, sorry.
-/
import Derived.Test.YtfekiagdnlnggaaDoorRows
import GoSem.ClaimSeven
namespace Go.Proofs.YtfekiagdnlnggaaDoor
namespace Rows

/-- THE TIED CARD OF 'pigeonholeslaw2.TurnGoes'. -/
def turnGoesCard : Claim7 := { stood := { row := turnGoesRow, standIns := [], harness := (true, "d33d37c8fa3bf1650d2a11e150d726070d334d2587cc2f744501cf49fdcbab24"), looks := true }, kinds := [], alts := [], laidByText := true, laidKinds := [.sentinel, .sentinel, .sentinel], laidTests := true, laidLooks := .later }
def TurnGoesCardSaid : Prop := Claim7.holds Tryd.pinned (.plain (OpenSpec.ofChange turnGoesSpec)) turnGoesCard

/-- THE TIED CARD OF 'pigeonholeslaw3.CacheLast'. -/
def cacheLastCard : Claim7 := { stood := { row := cacheLastRow, standIns := [], harness := (true, "d33d37c8fa3bf1650d2a11e150d726070d334d2587cc2f744501cf49fdcbab24"), looks := true }, kinds := [], alts := [], laidByText := true, laidKinds := [.sentinel, .sentinel, .sentinel], laidTests := true, laidLooks := .later }
def CacheLastCardSaid : Prop := Claim7.holds Tryd.pinned (.plain (OpenSpec.ofChange cacheLastSpec)) cacheLastCard

/-- THE TIED CARD OF 'pigeonholeslaw1.DataKeeps'. -/
def dataKeepsCard : Claim7 := { stood := { row := dataKeepsRow, standIns := [], harness := (true, "d33d37c8fa3bf1650d2a11e150d726070d334d2587cc2f744501cf49fdcbab24"), looks := true }, kinds := [], alts := [], laidByText := true, laidKinds := [.sentinel], laidTests := true, laidLooks := .later }
def DataKeepsCardSaid : Prop := Claim7.holds Tryd.pinned (.plain (OpenSpec.ofChange dataKeepsSpec)) dataKeepsCard

/-- THE TIED CARD OF 'pigeonholeslaw1.Names'. -/
def namesCard : Claim7 := { stood := { row := namesRow, standIns := [], harness := (true, "d33d37c8fa3bf1650d2a11e150d726070d334d2587cc2f744501cf49fdcbab24"), looks := true }, kinds := [], alts := [], laidByText := true, laidKinds := [.handle, .sentinel, .sentinel, .sentinel, .sentinel, .sentinel, .sentinel, .sentinel, .sentinel, .sentinel, .sentinel, .sentinel, .sentinel, .sentinel, .sentinel, .sentinel], laidTests := true, laidLooks := .later }
def NamesCardSaid : Prop := Claim7.holds Tryd.pinned (.plain (OpenSpec.ofChange namesSpec)) namesCard

/-- THE TIED CARD OF 'pigeonholeslaw3.CacheActs'. -/
def cacheActsCard : Claim7 := { stood := { row := cacheActsRow, standIns := [], harness := (true, "d33d37c8fa3bf1650d2a11e150d726070d334d2587cc2f744501cf49fdcbab24"), looks := true }, kinds := [], alts := [], laidByText := true, laidKinds := [.handle, .sentinel, .sentinel, .sentinel, .sentinel, .sentinel, .sentinel, .sentinel, .sentinel, .sentinel, .sentinel, .sentinel, .sentinel, .sentinel, .sentinel, .sentinel], laidTests := true, laidLooks := .later }
def CacheActsCardSaid : Prop := Claim7.holds Tryd.pinned (.plain (OpenSpec.ofChange cacheActsSpec)) cacheActsCard

/-- THE TIED CARD OF 'pigeonholeslaw2.TurnActs'. -/
def turnActsCard : Claim7 := { stood := { row := turnActsRow, standIns := [], harness := (true, "d33d37c8fa3bf1650d2a11e150d726070d334d2587cc2f744501cf49fdcbab24"), looks := true }, kinds := [], alts := [], laidByText := true, laidKinds := [.handle, .sentinel, .sentinel, .sentinel, .sentinel, .sentinel, .sentinel, .sentinel, .sentinel, .sentinel, .sentinel, .sentinel, .sentinel, .sentinel, .sentinel, .sentinel], laidTests := true, laidLooks := .later }
def TurnActsCardSaid : Prop := Claim7.holds Tryd.pinned (.plain (OpenSpec.ofChange turnActsSpec)) turnActsCard

/-- THE TIED CARD OF 'pigeonholeslaw4.DiskKeeps'. -/
def diskKeepsCard : Claim7 := { stood := { row := diskKeepsRow, standIns := [], harness := (true, "d33d37c8fa3bf1650d2a11e150d726070d334d2587cc2f744501cf49fdcbab24"), looks := true }, kinds := [], alts := [], laidByText := true, laidKinds := [.sentinel, .sentinel, .sentinel], laidTests := true, laidLooks := .later }
def DiskKeepsCardSaid : Prop := Claim7.holds Tryd.pinned (.plain (OpenSpec.ofChange diskKeepsSpec)) diskKeepsCard

/-- THE TIED CARD OF 'pigeonholeslaw1.DataActs'. -/
def dataActsCard : Claim7 := { stood := { row := dataActsRow, standIns := [], harness := (true, "d33d37c8fa3bf1650d2a11e150d726070d334d2587cc2f744501cf49fdcbab24"), looks := true }, kinds := [], alts := [], laidByText := true, laidKinds := [.handle, .sentinel, .sentinel, .sentinel, .sentinel, .sentinel, .sentinel, .sentinel, .sentinel, .sentinel, .sentinel, .sentinel, .sentinel, .sentinel, .sentinel, .sentinel], laidTests := true, laidLooks := .later }
def DataActsCardSaid : Prop := Claim7.holds Tryd.pinned (.plain (OpenSpec.ofChange dataActsSpec)) dataActsCard

/-- THE TIED CARD OF 'pigeonholeslaw4.DiskActs'. -/
def diskActsCard : Claim7 := { stood := { row := diskActsRow, standIns := [], harness := (true, "d33d37c8fa3bf1650d2a11e150d726070d334d2587cc2f744501cf49fdcbab24"), looks := true }, kinds := [], alts := [], laidByText := true, laidKinds := [.handle, .sentinel, .sentinel, .sentinel, .sentinel, .sentinel, .sentinel, .sentinel, .sentinel, .sentinel, .sentinel, .sentinel, .sentinel, .sentinel, .sentinel, .sentinel], laidTests := true, laidLooks := .later }
def DiskActsCardSaid : Prop := Claim7.holds Tryd.pinned (.plain (OpenSpec.ofChange diskActsSpec)) diskActsCard

/-- THE TIED CARD OF 'pigeonholeslaw3.NetActs'. -/
def netActsCard : Claim7 := { stood := { row := netActsRow, standIns := [], harness := (true, "d33d37c8fa3bf1650d2a11e150d726070d334d2587cc2f744501cf49fdcbab24"), looks := true }, kinds := [], alts := [], laidByText := true, laidKinds := [.handle, .sentinel, .sentinel, .sentinel, .sentinel, .sentinel, .sentinel, .sentinel, .sentinel, .sentinel, .sentinel, .sentinel, .sentinel, .sentinel, .sentinel, .sentinel], laidTests := true, laidLooks := .later }
def NetActsCardSaid : Prop := Claim7.holds Tryd.pinned (.plain (OpenSpec.ofChange netActsSpec)) netActsCard

/-- THE SECOND FORM's CARD OF 'pigeonholeslaw2.TurnGoes'. -/
def turnGoesUptoCard : Claim7 := { stood := { row := turnGoesUptoRow, standIns := [], harness := (true, "d33d37c8fa3bf1650d2a11e150d726070d334d2587cc2f744501cf49fdcbab24"), looks := true }, kinds := [], alts := [], laidByText := true, laidKinds := [.sentinel, .sentinel, .sentinel], laidTests := true, laidLooks := .later }
def TurnGoesUptoCardSaid : Prop := Claim7.holds Tryd.pinned (.plain (OpenSpec.upto turnGoesSpec)) turnGoesUptoCard

/-- THE SECOND FORM's CARD OF 'pigeonholeslaw3.CacheLast'. -/
def cacheLastUptoCard : Claim7 := { stood := { row := cacheLastUptoRow, standIns := [], harness := (true, "d33d37c8fa3bf1650d2a11e150d726070d334d2587cc2f744501cf49fdcbab24"), looks := true }, kinds := [], alts := [], laidByText := true, laidKinds := [.sentinel, .sentinel, .sentinel], laidTests := true, laidLooks := .later }
def CacheLastUptoCardSaid : Prop := Claim7.holds Tryd.pinned (.plain (OpenSpec.upto cacheLastSpec)) cacheLastUptoCard

/-- THE SECOND FORM's CARD OF 'pigeonholeslaw1.DataKeeps'. -/
def dataKeepsUptoCard : Claim7 := { stood := { row := dataKeepsUptoRow, standIns := [], harness := (true, "d33d37c8fa3bf1650d2a11e150d726070d334d2587cc2f744501cf49fdcbab24"), looks := true }, kinds := [], alts := [], laidByText := true, laidKinds := [.sentinel], laidTests := true, laidLooks := .later }
def DataKeepsUptoCardSaid : Prop := Claim7.holds Tryd.pinned (.plain (OpenSpec.upto dataKeepsSpec)) dataKeepsUptoCard

/-- THE SECOND FORM's CARD OF 'pigeonholeslaw1.Names'. -/
def namesUptoCard : Claim7 := { stood := { row := namesUptoRow, standIns := [], harness := (true, "d33d37c8fa3bf1650d2a11e150d726070d334d2587cc2f744501cf49fdcbab24"), looks := true }, kinds := [], alts := [], laidByText := true, laidKinds := [.handle, .sentinel, .sentinel, .sentinel, .sentinel, .sentinel, .sentinel, .sentinel, .sentinel, .sentinel, .sentinel, .sentinel, .sentinel, .sentinel, .sentinel, .sentinel], laidTests := true, laidLooks := .later }
def NamesUptoCardSaid : Prop := Claim7.holds Tryd.pinned (.plain (OpenSpec.upto namesSpec)) namesUptoCard

/-- THE SECOND FORM's CARD OF 'pigeonholeslaw3.CacheActs'. -/
def cacheActsUptoCard : Claim7 := { stood := { row := cacheActsUptoRow, standIns := [], harness := (true, "d33d37c8fa3bf1650d2a11e150d726070d334d2587cc2f744501cf49fdcbab24"), looks := true }, kinds := [], alts := [], laidByText := true, laidKinds := [.handle, .sentinel, .sentinel, .sentinel, .sentinel, .sentinel, .sentinel, .sentinel, .sentinel, .sentinel, .sentinel, .sentinel, .sentinel, .sentinel, .sentinel, .sentinel], laidTests := true, laidLooks := .later }
def CacheActsUptoCardSaid : Prop := Claim7.holds Tryd.pinned (.plain (OpenSpec.upto cacheActsSpec)) cacheActsUptoCard

/-- THE SECOND FORM's CARD OF 'pigeonholeslaw2.TurnActs'. -/
def turnActsUptoCard : Claim7 := { stood := { row := turnActsUptoRow, standIns := [], harness := (true, "d33d37c8fa3bf1650d2a11e150d726070d334d2587cc2f744501cf49fdcbab24"), looks := true }, kinds := [], alts := [], laidByText := true, laidKinds := [.handle, .sentinel, .sentinel, .sentinel, .sentinel, .sentinel, .sentinel, .sentinel, .sentinel, .sentinel, .sentinel, .sentinel, .sentinel, .sentinel, .sentinel, .sentinel], laidTests := true, laidLooks := .later }
def TurnActsUptoCardSaid : Prop := Claim7.holds Tryd.pinned (.plain (OpenSpec.upto turnActsSpec)) turnActsUptoCard

/-- THE SECOND FORM's CARD OF 'pigeonholeslaw4.DiskKeeps'. -/
def diskKeepsUptoCard : Claim7 := { stood := { row := diskKeepsUptoRow, standIns := [], harness := (true, "d33d37c8fa3bf1650d2a11e150d726070d334d2587cc2f744501cf49fdcbab24"), looks := true }, kinds := [], alts := [], laidByText := true, laidKinds := [.sentinel, .sentinel, .sentinel], laidTests := true, laidLooks := .later }
def DiskKeepsUptoCardSaid : Prop := Claim7.holds Tryd.pinned (.plain (OpenSpec.upto diskKeepsSpec)) diskKeepsUptoCard

/-- THE SECOND FORM's CARD OF 'pigeonholeslaw1.DataActs'. -/
def dataActsUptoCard : Claim7 := { stood := { row := dataActsUptoRow, standIns := [], harness := (true, "d33d37c8fa3bf1650d2a11e150d726070d334d2587cc2f744501cf49fdcbab24"), looks := true }, kinds := [], alts := [], laidByText := true, laidKinds := [.handle, .sentinel, .sentinel, .sentinel, .sentinel, .sentinel, .sentinel, .sentinel, .sentinel, .sentinel, .sentinel, .sentinel, .sentinel, .sentinel, .sentinel, .sentinel], laidTests := true, laidLooks := .later }
def DataActsUptoCardSaid : Prop := Claim7.holds Tryd.pinned (.plain (OpenSpec.upto dataActsSpec)) dataActsUptoCard

/-- THE SECOND FORM's CARD OF 'pigeonholeslaw4.DiskActs'. -/
def diskActsUptoCard : Claim7 := { stood := { row := diskActsUptoRow, standIns := [], harness := (true, "d33d37c8fa3bf1650d2a11e150d726070d334d2587cc2f744501cf49fdcbab24"), looks := true }, kinds := [], alts := [], laidByText := true, laidKinds := [.handle, .sentinel, .sentinel, .sentinel, .sentinel, .sentinel, .sentinel, .sentinel, .sentinel, .sentinel, .sentinel, .sentinel, .sentinel, .sentinel, .sentinel, .sentinel], laidTests := true, laidLooks := .later }
def DiskActsUptoCardSaid : Prop := Claim7.holds Tryd.pinned (.plain (OpenSpec.upto diskActsSpec)) diskActsUptoCard

/-- THE SECOND FORM's CARD OF 'pigeonholeslaw3.NetActs'. -/
def netActsUptoCard : Claim7 := { stood := { row := netActsUptoRow, standIns := [], harness := (true, "d33d37c8fa3bf1650d2a11e150d726070d334d2587cc2f744501cf49fdcbab24"), looks := true }, kinds := [], alts := [], laidByText := true, laidKinds := [.handle, .sentinel, .sentinel, .sentinel, .sentinel, .sentinel, .sentinel, .sentinel, .sentinel, .sentinel, .sentinel, .sentinel, .sentinel, .sentinel, .sentinel, .sentinel], laidTests := true, laidLooks := .later }
def NetActsUptoCardSaid : Prop := Claim7.holds Tryd.pinned (.plain (OpenSpec.upto netActsSpec)) netActsUptoCard
end Rows
end Go.Proofs.YtfekiagdnlnggaaDoor
