/-
  DERIVED. GIVEN WITH THE SEED: THE CARDS: each row of YtofhnglgebllbaaDoorRows.lean that lists a variable, with what it lists TIED to the program's text (the seventh form; the later family's looks); each row that meets fmt, with fmt's text TOLD by the authors' own Lean function (tested against real Go, not proved from fmt's source: count such statements apart). THE CARD IS WHAT COUNTS. Prove the row's statement (the work); the ties are given (YtofhnglgebllbaaDoorTie.lean); close each card by the builder's one call (the guide's Derived/Test/ToyasCard.lean, 'card_holds'). Laid BY PROGRAM, IN A SANDBOX (cutbox-door.mjs). By AI agents, Wed Nov 11 2026. No macro, syntax, notation, axiom, sorry.
-/
import Derived.Test.YtofhnglgebllbaaDoorRows
import GoSem.ClaimSeven
namespace Go.Proofs.YtofhnglgebllbaaDoor
namespace Rows

/-- THE TIED CARD OF 'pigeonholeslaw1.TreeFull'. -/
def treeFullCard : Claim7 := { stood := { row := treeFullRow, standIns := [], harness := (true, "7c5ab1d3f001b5fcb56e382f4b18c6cca0df3431330f95ea6f22d2dd82118cc4"), looks := true }, kinds := [], alts := [], laidByText := true, laidKinds := [.handle, .sentinel, .sentinel, .sentinel, .sentinel, .sentinel, .sentinel, .sentinel, .sentinel, .sentinel, .sentinel, .sentinel, .sentinel, .sentinel, .sentinel, .sentinel], laidTests := true, laidLooks := .later }
def TreeFullCardSaid : Prop := Claim7.holds Tryd.pinned (.plain (OpenSpec.ofChange treeFullSpec)) treeFullCard

/-- THE TIED CARD OF 'pigeonholeslaw3.NetActs'. -/
def netActsCard : Claim7 := { stood := { row := netActsRow, standIns := [], harness := (true, "7c5ab1d3f001b5fcb56e382f4b18c6cca0df3431330f95ea6f22d2dd82118cc4"), looks := true }, kinds := [], alts := [], laidByText := true, laidKinds := [.handle, .sentinel, .sentinel, .sentinel, .sentinel, .sentinel, .sentinel, .sentinel, .sentinel, .sentinel, .sentinel, .sentinel, .sentinel, .sentinel, .sentinel, .sentinel], laidTests := true, laidLooks := .later }
def NetActsCardSaid : Prop := Claim7.holds Tryd.pinned (.plain (OpenSpec.ofChange netActsSpec)) netActsCard

/-- THE TIED CARD OF 'pigeonholeslaw2.ShareSound'. -/
def shareSoundCard : Claim7 := { stood := { row := shareSoundRow, standIns := [], harness := (true, "7c5ab1d3f001b5fcb56e382f4b18c6cca0df3431330f95ea6f22d2dd82118cc4"), looks := true }, kinds := [], alts := [], laidByText := true, laidKinds := [.sentinel, .sentinel, .sentinel, .sentinel, .sentinel], laidTests := true, laidLooks := .later }
def ShareSoundCardSaid : Prop := Claim7.holds Tryd.pinned (.plain (OpenSpec.ofChange shareSoundSpec)) shareSoundCard

/-- THE TIED CARD OF 'pigeonholeslaw3.CallNew'. -/
def callNewCard : Claim7 := { stood := { row := callNewRow, standIns := [], harness := (true, "7c5ab1d3f001b5fcb56e382f4b18c6cca0df3431330f95ea6f22d2dd82118cc4"), looks := true }, kinds := [], alts := [], laidByText := true, laidKinds := [.handle, .sentinel, .sentinel, .sentinel, .sentinel, .sentinel, .sentinel, .sentinel, .sentinel, .sentinel, .sentinel, .sentinel, .sentinel, .sentinel, .sentinel, .sentinel], laidTests := true, laidLooks := .later }
def CallNewCardSaid : Prop := Claim7.holds Tryd.pinned (.plain (OpenSpec.ofChange callNewSpec)) callNewCard

/-- THE TIED CARD OF 'pigeonholeslaw2.LockSound'. -/
def lockSoundCard : Claim7 := { stood := { row := lockSoundRow, standIns := [], harness := (true, "7c5ab1d3f001b5fcb56e382f4b18c6cca0df3431330f95ea6f22d2dd82118cc4"), looks := true }, kinds := [], alts := [], laidByText := true, laidKinds := [.sentinel, .sentinel, .sentinel], laidTests := true, laidLooks := .later }
def LockSoundCardSaid : Prop := Claim7.holds Tryd.pinned (.plain (OpenSpec.ofChange lockSoundSpec)) lockSoundCard

/-- THE TIED CARD OF 'pigeonholeslaw2.LockFull'. -/
def lockFullCard : Claim7 := { stood := { row := lockFullRow, standIns := [], harness := (true, "7c5ab1d3f001b5fcb56e382f4b18c6cca0df3431330f95ea6f22d2dd82118cc4"), looks := true }, kinds := [], alts := [], laidByText := true, laidKinds := [.handle, .sentinel, .sentinel, .sentinel, .sentinel, .sentinel, .sentinel, .sentinel, .sentinel, .sentinel, .sentinel, .sentinel, .sentinel, .sentinel, .sentinel, .sentinel], laidTests := true, laidLooks := .later }
def LockFullCardSaid : Prop := Claim7.holds Tryd.pinned (.plain (OpenSpec.ofChange lockFullSpec)) lockFullCard

/-- THE TIED CARD OF 'pigeonholeslaw2.LockBytes'. -/
def lockBytesCard : Claim7 := { stood := { row := lockBytesRow, standIns := [], harness := (true, "7c5ab1d3f001b5fcb56e382f4b18c6cca0df3431330f95ea6f22d2dd82118cc4"), looks := true }, kinds := [], alts := [], laidByText := true, laidKinds := [.handle, .sentinel, .sentinel, .sentinel, .sentinel, .sentinel, .sentinel, .sentinel, .sentinel, .sentinel, .sentinel, .sentinel, .sentinel, .sentinel, .sentinel, .sentinel], laidTests := true, laidLooks := .later }
def LockBytesCardSaid : Prop := Claim7.holds Tryd.pinned (.plain (OpenSpec.ofChange lockBytesSpec)) lockBytesCard

/-- THE TIED CARD OF 'pigeonholeslaw2.ShareActs'. -/
def shareActsCard : Claim7 := { stood := { row := shareActsRow, standIns := [], harness := (true, "7c5ab1d3f001b5fcb56e382f4b18c6cca0df3431330f95ea6f22d2dd82118cc4"), looks := true }, kinds := [], alts := [], laidByText := true, laidKinds := [.handle, .sentinel, .sentinel, .sentinel, .sentinel, .sentinel, .sentinel, .sentinel, .sentinel, .sentinel, .sentinel, .sentinel, .sentinel, .sentinel, .sentinel, .sentinel], laidTests := true, laidLooks := .later }
def ShareActsCardSaid : Prop := Claim7.holds Tryd.pinned (.plain (OpenSpec.ofChange shareActsSpec)) shareActsCard

/-- THE TIED CARD OF 'pigeonholeslaw2.LeaseActs'. -/
def leaseActsCard : Claim7 := { stood := { row := leaseActsRow, standIns := [], harness := (true, "7c5ab1d3f001b5fcb56e382f4b18c6cca0df3431330f95ea6f22d2dd82118cc4"), looks := true }, kinds := [], alts := [], laidByText := true, laidKinds := [.handle, .sentinel, .sentinel, .sentinel, .sentinel, .sentinel, .sentinel, .sentinel, .sentinel, .sentinel, .sentinel, .sentinel, .sentinel, .sentinel, .sentinel, .sentinel], laidTests := true, laidLooks := .later }
def LeaseActsCardSaid : Prop := Claim7.holds Tryd.pinned (.plain (OpenSpec.ofChange leaseActsSpec)) leaseActsCard

/-- THE TIED CARD OF 'pigeonholeslaw2.LeaseKeeps'. -/
def leaseKeepsCard : Claim7 := { stood := { row := leaseKeepsRow, standIns := [], harness := (true, "7c5ab1d3f001b5fcb56e382f4b18c6cca0df3431330f95ea6f22d2dd82118cc4"), looks := true }, kinds := [], alts := [], laidByText := true, laidKinds := [.handle, .sentinel, .sentinel, .sentinel, .sentinel, .sentinel, .sentinel, .sentinel, .sentinel, .sentinel, .sentinel, .sentinel, .sentinel, .sentinel, .sentinel, .sentinel], laidTests := true, laidLooks := .later }
def LeaseKeepsCardSaid : Prop := Claim7.holds Tryd.pinned (.plain (OpenSpec.ofChange leaseKeepsSpec)) leaseKeepsCard

/-- THE TIED CARD OF 'pigeonholeslaw3.CallCodes'. -/
def callCodesCard : Claim7 := { stood := { row := callCodesRow, standIns := [], harness := (true, "7c5ab1d3f001b5fcb56e382f4b18c6cca0df3431330f95ea6f22d2dd82118cc4"), looks := true }, kinds := [], alts := [], laidByText := true, laidKinds := [.data, .handle, .sentinel, .sentinel, .sentinel, .sentinel, .sentinel, .sentinel, .sentinel, .sentinel, .sentinel, .sentinel, .sentinel, .sentinel, .sentinel, .sentinel, .sentinel, .pinned], laidTests := true, laidLooks := .later }
def CallCodesCardSaid : Prop := Claim7.holds Tryd.pinned (.plain (OpenSpec.ofChange callCodesSpec)) callCodesCard

/-- THE TIED CARD OF 'pigeonholeslaw2.LockActs'. -/
def lockActsCard : Claim7 := { stood := { row := lockActsRow, standIns := [], harness := (true, "7c5ab1d3f001b5fcb56e382f4b18c6cca0df3431330f95ea6f22d2dd82118cc4"), looks := true }, kinds := [], alts := [], laidByText := true, laidKinds := [.handle, .sentinel, .sentinel, .sentinel, .sentinel, .sentinel, .sentinel, .sentinel, .sentinel, .sentinel, .sentinel, .sentinel, .sentinel, .sentinel, .sentinel, .sentinel], laidTests := true, laidLooks := .later }
def LockActsCardSaid : Prop := Claim7.holds Tryd.pinned (.plain (OpenSpec.ofChange lockActsSpec)) lockActsCard

/-- THE SECOND FORM's CARD OF 'pigeonholeslaw1.TreeFull'. -/
def treeFullUptoCard : Claim7 := { stood := { row := treeFullUptoRow, standIns := [], harness := (true, "7c5ab1d3f001b5fcb56e382f4b18c6cca0df3431330f95ea6f22d2dd82118cc4"), looks := true }, kinds := [], alts := [], laidByText := true, laidKinds := [.handle, .sentinel, .sentinel, .sentinel, .sentinel, .sentinel, .sentinel, .sentinel, .sentinel, .sentinel, .sentinel, .sentinel, .sentinel, .sentinel, .sentinel, .sentinel], laidTests := true, laidLooks := .later }
def TreeFullUptoCardSaid : Prop := Claim7.holds Tryd.pinned (.plain (OpenSpec.upto treeFullSpec)) treeFullUptoCard

/-- THE SECOND FORM's CARD OF 'pigeonholeslaw3.NetActs'. -/
def netActsUptoCard : Claim7 := { stood := { row := netActsUptoRow, standIns := [], harness := (true, "7c5ab1d3f001b5fcb56e382f4b18c6cca0df3431330f95ea6f22d2dd82118cc4"), looks := true }, kinds := [], alts := [], laidByText := true, laidKinds := [.handle, .sentinel, .sentinel, .sentinel, .sentinel, .sentinel, .sentinel, .sentinel, .sentinel, .sentinel, .sentinel, .sentinel, .sentinel, .sentinel, .sentinel, .sentinel], laidTests := true, laidLooks := .later }
def NetActsUptoCardSaid : Prop := Claim7.holds Tryd.pinned (.plain (OpenSpec.upto netActsSpec)) netActsUptoCard

/-- THE SECOND FORM's CARD OF 'pigeonholeslaw2.ShareSound'. -/
def shareSoundUptoCard : Claim7 := { stood := { row := shareSoundUptoRow, standIns := [], harness := (true, "7c5ab1d3f001b5fcb56e382f4b18c6cca0df3431330f95ea6f22d2dd82118cc4"), looks := true }, kinds := [], alts := [], laidByText := true, laidKinds := [.sentinel, .sentinel, .sentinel, .sentinel, .sentinel], laidTests := true, laidLooks := .later }
def ShareSoundUptoCardSaid : Prop := Claim7.holds Tryd.pinned (.plain (OpenSpec.upto shareSoundSpec)) shareSoundUptoCard

/-- THE SECOND FORM's CARD OF 'pigeonholeslaw3.CallNew'. -/
def callNewUptoCard : Claim7 := { stood := { row := callNewUptoRow, standIns := [], harness := (true, "7c5ab1d3f001b5fcb56e382f4b18c6cca0df3431330f95ea6f22d2dd82118cc4"), looks := true }, kinds := [], alts := [], laidByText := true, laidKinds := [.handle, .sentinel, .sentinel, .sentinel, .sentinel, .sentinel, .sentinel, .sentinel, .sentinel, .sentinel, .sentinel, .sentinel, .sentinel, .sentinel, .sentinel, .sentinel], laidTests := true, laidLooks := .later }
def CallNewUptoCardSaid : Prop := Claim7.holds Tryd.pinned (.plain (OpenSpec.upto callNewSpec)) callNewUptoCard

/-- THE SECOND FORM's CARD OF 'pigeonholeslaw2.LockSound'. -/
def lockSoundUptoCard : Claim7 := { stood := { row := lockSoundUptoRow, standIns := [], harness := (true, "7c5ab1d3f001b5fcb56e382f4b18c6cca0df3431330f95ea6f22d2dd82118cc4"), looks := true }, kinds := [], alts := [], laidByText := true, laidKinds := [.sentinel, .sentinel, .sentinel], laidTests := true, laidLooks := .later }
def LockSoundUptoCardSaid : Prop := Claim7.holds Tryd.pinned (.plain (OpenSpec.upto lockSoundSpec)) lockSoundUptoCard

/-- THE SECOND FORM's CARD OF 'pigeonholeslaw2.LockFull'. -/
def lockFullUptoCard : Claim7 := { stood := { row := lockFullUptoRow, standIns := [], harness := (true, "7c5ab1d3f001b5fcb56e382f4b18c6cca0df3431330f95ea6f22d2dd82118cc4"), looks := true }, kinds := [], alts := [], laidByText := true, laidKinds := [.handle, .sentinel, .sentinel, .sentinel, .sentinel, .sentinel, .sentinel, .sentinel, .sentinel, .sentinel, .sentinel, .sentinel, .sentinel, .sentinel, .sentinel, .sentinel], laidTests := true, laidLooks := .later }
def LockFullUptoCardSaid : Prop := Claim7.holds Tryd.pinned (.plain (OpenSpec.upto lockFullSpec)) lockFullUptoCard

/-- THE SECOND FORM's CARD OF 'pigeonholeslaw2.LockBytes'. -/
def lockBytesUptoCard : Claim7 := { stood := { row := lockBytesUptoRow, standIns := [], harness := (true, "7c5ab1d3f001b5fcb56e382f4b18c6cca0df3431330f95ea6f22d2dd82118cc4"), looks := true }, kinds := [], alts := [], laidByText := true, laidKinds := [.handle, .sentinel, .sentinel, .sentinel, .sentinel, .sentinel, .sentinel, .sentinel, .sentinel, .sentinel, .sentinel, .sentinel, .sentinel, .sentinel, .sentinel, .sentinel], laidTests := true, laidLooks := .later }
def LockBytesUptoCardSaid : Prop := Claim7.holds Tryd.pinned (.plain (OpenSpec.upto lockBytesSpec)) lockBytesUptoCard

/-- THE SECOND FORM's CARD OF 'pigeonholeslaw2.ShareActs'. -/
def shareActsUptoCard : Claim7 := { stood := { row := shareActsUptoRow, standIns := [], harness := (true, "7c5ab1d3f001b5fcb56e382f4b18c6cca0df3431330f95ea6f22d2dd82118cc4"), looks := true }, kinds := [], alts := [], laidByText := true, laidKinds := [.handle, .sentinel, .sentinel, .sentinel, .sentinel, .sentinel, .sentinel, .sentinel, .sentinel, .sentinel, .sentinel, .sentinel, .sentinel, .sentinel, .sentinel, .sentinel], laidTests := true, laidLooks := .later }
def ShareActsUptoCardSaid : Prop := Claim7.holds Tryd.pinned (.plain (OpenSpec.upto shareActsSpec)) shareActsUptoCard

/-- THE SECOND FORM's CARD OF 'pigeonholeslaw2.LeaseActs'. -/
def leaseActsUptoCard : Claim7 := { stood := { row := leaseActsUptoRow, standIns := [], harness := (true, "7c5ab1d3f001b5fcb56e382f4b18c6cca0df3431330f95ea6f22d2dd82118cc4"), looks := true }, kinds := [], alts := [], laidByText := true, laidKinds := [.handle, .sentinel, .sentinel, .sentinel, .sentinel, .sentinel, .sentinel, .sentinel, .sentinel, .sentinel, .sentinel, .sentinel, .sentinel, .sentinel, .sentinel, .sentinel], laidTests := true, laidLooks := .later }
def LeaseActsUptoCardSaid : Prop := Claim7.holds Tryd.pinned (.plain (OpenSpec.upto leaseActsSpec)) leaseActsUptoCard

/-- THE SECOND FORM's CARD OF 'pigeonholeslaw2.LeaseKeeps'. -/
def leaseKeepsUptoCard : Claim7 := { stood := { row := leaseKeepsUptoRow, standIns := [], harness := (true, "7c5ab1d3f001b5fcb56e382f4b18c6cca0df3431330f95ea6f22d2dd82118cc4"), looks := true }, kinds := [], alts := [], laidByText := true, laidKinds := [.handle, .sentinel, .sentinel, .sentinel, .sentinel, .sentinel, .sentinel, .sentinel, .sentinel, .sentinel, .sentinel, .sentinel, .sentinel, .sentinel, .sentinel, .sentinel], laidTests := true, laidLooks := .later }
def LeaseKeepsUptoCardSaid : Prop := Claim7.holds Tryd.pinned (.plain (OpenSpec.upto leaseKeepsSpec)) leaseKeepsUptoCard

/-- THE SECOND FORM's CARD OF 'pigeonholeslaw3.CallCodes'. -/
def callCodesUptoCard : Claim7 := { stood := { row := callCodesUptoRow, standIns := [], harness := (true, "7c5ab1d3f001b5fcb56e382f4b18c6cca0df3431330f95ea6f22d2dd82118cc4"), looks := true }, kinds := [], alts := [], laidByText := true, laidKinds := [.data, .handle, .sentinel, .sentinel, .sentinel, .sentinel, .sentinel, .sentinel, .sentinel, .sentinel, .sentinel, .sentinel, .sentinel, .sentinel, .sentinel, .sentinel, .sentinel, .pinned], laidTests := true, laidLooks := .later }
def CallCodesUptoCardSaid : Prop := Claim7.holds Tryd.pinned (.plain (OpenSpec.upto callCodesSpec)) callCodesUptoCard

/-- THE SECOND FORM's CARD OF 'pigeonholeslaw2.LockActs'. -/
def lockActsUptoCard : Claim7 := { stood := { row := lockActsUptoRow, standIns := [], harness := (true, "7c5ab1d3f001b5fcb56e382f4b18c6cca0df3431330f95ea6f22d2dd82118cc4"), looks := true }, kinds := [], alts := [], laidByText := true, laidKinds := [.handle, .sentinel, .sentinel, .sentinel, .sentinel, .sentinel, .sentinel, .sentinel, .sentinel, .sentinel, .sentinel, .sentinel, .sentinel, .sentinel, .sentinel, .sentinel], laidTests := true, laidLooks := .later }
def LockActsUptoCardSaid : Prop := Claim7.holds Tryd.pinned (.plain (OpenSpec.upto lockActsSpec)) lockActsUptoCard
end Rows
end Go.Proofs.YtofhnglgebllbaaDoor
