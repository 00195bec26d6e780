/-
  DERIVED. GIVEN WITH THE SEED: THE CARDS: each row of YtgebinfbbopnlaaDoorRows.lean that lists a variable, with what it lists TIED to the program's text (the seventh form; the later family's looks); each row that meets fmt, with fmt's text TOLD by the authors' own Lean function (tested against real Go, not proved from fmt's source: count such statements apart). THE CARD IS WHAT COUNTS. Prove the row's statement (the work); the ties are given (YtgebinfbbopnlaaDoorTie.lean); close each card by the builder's one call (the guide's Derived/Test/ToyasCard.lean, 'card_holds'). Laid BY PROGRAM, IN A SANDBOX (cutbox-door.mjs). By AI agents, Wed Nov 11 2026. No macro, syntax, notation, axiom, sorry.
-/
import Derived.Test.YtgebinfbbopnlaaDoorRows
import GoSem.ClaimSeven
namespace Go.Proofs.YtgebinfbbopnlaaDoor
namespace Rows

/-- THE TIED CARD OF 'pigeonholeslaw1.NodesActs'. -/
def nodesActsCard : Claim7 := { stood := { row := nodesActsRow, standIns := [], harness := (true, "27c936c9d2dcb58f60bb978fd4122c75d8e028f360e90e9ada1b0ba1222b29ed"), looks := true }, kinds := [], alts := [], laidByText := true, laidKinds := [.handle, .sentinel, .sentinel, .sentinel, .sentinel, .sentinel, .sentinel, .sentinel, .sentinel, .sentinel, .sentinel, .sentinel, .sentinel, .sentinel, .sentinel, .sentinel], laidTests := true, laidLooks := .later }
def NodesActsCardSaid : Prop := Claim7.holds Tryd.pinned (.plain (OpenSpec.ofChange nodesActsSpec)) nodesActsCard

/-- THE TIED CARD OF 'pigeonholeslaw2.LockActs'. -/
def lockActsCard : Claim7 := { stood := { row := lockActsRow, standIns := [], harness := (true, "27c936c9d2dcb58f60bb978fd4122c75d8e028f360e90e9ada1b0ba1222b29ed"), looks := true }, kinds := [], alts := [], laidByText := true, laidKinds := [.handle, .sentinel, .sentinel, .sentinel, .sentinel, .sentinel, .sentinel, .sentinel, .sentinel, .sentinel, .sentinel, .sentinel, .sentinel, .sentinel, .sentinel, .sentinel], laidTests := true, laidLooks := .later }
def LockActsCardSaid : Prop := Claim7.holds Tryd.pinned (.plain (OpenSpec.ofChange lockActsSpec)) lockActsCard

/-- THE SECOND FORM's CARD OF 'pigeonholeslaw1.NodesActs'. -/
def nodesActsUptoCard : Claim7 := { stood := { row := nodesActsUptoRow, standIns := [], harness := (true, "27c936c9d2dcb58f60bb978fd4122c75d8e028f360e90e9ada1b0ba1222b29ed"), looks := true }, kinds := [], alts := [], laidByText := true, laidKinds := [.handle, .sentinel, .sentinel, .sentinel, .sentinel, .sentinel, .sentinel, .sentinel, .sentinel, .sentinel, .sentinel, .sentinel, .sentinel, .sentinel, .sentinel, .sentinel], laidTests := true, laidLooks := .later }
def NodesActsUptoCardSaid : Prop := Claim7.holds Tryd.pinned (.plain (OpenSpec.upto nodesActsSpec)) nodesActsUptoCard

/-- THE SECOND FORM's CARD OF 'pigeonholeslaw2.LockActs'. -/
def lockActsUptoCard : Claim7 := { stood := { row := lockActsUptoRow, standIns := [], harness := (true, "27c936c9d2dcb58f60bb978fd4122c75d8e028f360e90e9ada1b0ba1222b29ed"), looks := true }, kinds := [], alts := [], laidByText := true, laidKinds := [.handle, .sentinel, .sentinel, .sentinel, .sentinel, .sentinel, .sentinel, .sentinel, .sentinel, .sentinel, .sentinel, .sentinel, .sentinel, .sentinel, .sentinel, .sentinel], laidTests := true, laidLooks := .later }
def LockActsUptoCardSaid : Prop := Claim7.holds Tryd.pinned (.plain (OpenSpec.upto lockActsSpec)) lockActsUptoCard
end Rows
end Go.Proofs.YtgebinfbbopnlaaDoor
