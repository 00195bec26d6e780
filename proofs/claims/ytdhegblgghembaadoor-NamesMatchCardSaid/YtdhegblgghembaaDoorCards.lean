/-
  DERIVED. GIVEN WITH THE SEED: THE CARDS: each row of YtdhegblgghembaaDoorRows.lean that lists a variable, with what it lists TIED to the program's text (the seventh form; the later family's looks); each row that meets fmt, with fmt's text TOLD by the authors' own Lean function (tested against real Go, not proved from fmt's source: count such statements apart). THE CARD IS WHAT COUNTS. Prove the row's statement (the work); the ties are given (YtdhegblgghembaaDoorTie.lean); close each card by the builder's one call (the guide's Derived/Test/ToyasCard.lean, 'card_holds'). Laid BY PROGRAM, IN A SANDBOX (cutbox-door.mjs). By AI agents, Wed Nov 11 2026. No macro, syntax, notation, axiom, sorry.
-/
import Derived.Test.YtdhegblgghembaaDoorRows
import GoSem.ClaimSeven
namespace Go.Proofs.YtdhegblgghembaaDoor
namespace Rows

/-- THE TIED CARD OF 'pigeonholeslaw1.NodesStale'. -/
def nodesStaleCard : Claim7 := { stood := { row := nodesStaleRow, standIns := [], harness := (true, "482870bbd46ed4bc6ffca29a0df1511de430f11bd1ae754cf95f2c8c3e1dc451"), looks := true }, kinds := [], alts := [], laidByText := true, laidKinds := [.handle, .sentinel, .sentinel, .sentinel, .sentinel, .sentinel, .sentinel, .sentinel, .sentinel, .sentinel, .sentinel, .sentinel, .sentinel, .sentinel, .sentinel, .sentinel], laidTests := true, laidLooks := .later }
def NodesStaleCardSaid : Prop := Claim7.holds Tryd.pinned (.plain (OpenSpec.ofChange nodesStaleSpec)) nodesStaleCard

/-- THE TIED CARD OF 'pigeonholeslaw1.AttrSame'. -/
def attrSameCard : Claim7 := { stood := { row := attrSameRow, standIns := [], harness := (true, "482870bbd46ed4bc6ffca29a0df1511de430f11bd1ae754cf95f2c8c3e1dc451"), looks := true }, kinds := [], alts := [], laidByText := true, laidKinds := [.handle, .sentinel, .sentinel, .sentinel, .sentinel, .sentinel, .sentinel, .sentinel, .sentinel, .sentinel, .sentinel, .sentinel, .sentinel, .sentinel, .sentinel, .sentinel], laidTests := true, laidLooks := .later }
def AttrSameCardSaid : Prop := Claim7.holds Tryd.pinned (.plain (OpenSpec.ofChange attrSameSpec)) attrSameCard

/-- THE TIED CARD OF 'pigeonholeslaw1.NodesActs'. -/
def nodesActsCard : Claim7 := { stood := { row := nodesActsRow, standIns := [], harness := (true, "482870bbd46ed4bc6ffca29a0df1511de430f11bd1ae754cf95f2c8c3e1dc451"), looks := true }, kinds := [], alts := [], laidByText := true, laidKinds := [.handle, .sentinel, .sentinel, .sentinel, .sentinel, .sentinel, .sentinel, .sentinel, .sentinel, .sentinel, .sentinel, .sentinel, .sentinel, .sentinel, .sentinel, .sentinel], laidTests := true, laidLooks := .later }
def NodesActsCardSaid : Prop := Claim7.holds Tryd.pinned (.plain (OpenSpec.ofChange nodesActsSpec)) nodesActsCard

/-- THE TIED CARD OF 'pigeonholeslaw1.AttrReads'. -/
def attrReadsCard : Claim7 := { stood := { row := attrReadsRow, standIns := [], harness := (true, "482870bbd46ed4bc6ffca29a0df1511de430f11bd1ae754cf95f2c8c3e1dc451"), looks := true }, kinds := [], alts := [], laidByText := true, laidKinds := [.handle, .sentinel, .sentinel, .sentinel, .sentinel, .sentinel, .sentinel, .sentinel, .sentinel, .sentinel, .sentinel, .sentinel, .sentinel, .sentinel, .sentinel, .sentinel], laidTests := true, laidLooks := .later }
def AttrReadsCardSaid : Prop := Claim7.holds Tryd.pinned (.plain (OpenSpec.ofChange attrReadsSpec)) attrReadsCard

/-- THE TIED CARD OF 'pigeonholeslaw1.AttrCodes'. -/
def attrCodesCard : Claim7 := { stood := { row := attrCodesRow, standIns := [], harness := (true, "482870bbd46ed4bc6ffca29a0df1511de430f11bd1ae754cf95f2c8c3e1dc451"), looks := true }, kinds := [], alts := [], laidByText := true, laidKinds := [.handle, .sentinel, .sentinel, .sentinel, .sentinel, .sentinel, .sentinel, .sentinel, .sentinel, .sentinel, .sentinel, .sentinel, .sentinel, .sentinel, .sentinel, .sentinel], laidTests := true, laidLooks := .later }
def AttrCodesCardSaid : Prop := Claim7.holds Tryd.pinned (.plain (OpenSpec.ofChange attrCodesSpec)) attrCodesCard

/-- THE TIED CARD OF 'pigeonholeslaw1.XdrWrites'. -/
def xdrWritesCard : Claim7 := { stood := { row := xdrWritesRow, standIns := [], harness := (true, "482870bbd46ed4bc6ffca29a0df1511de430f11bd1ae754cf95f2c8c3e1dc451"), looks := true }, kinds := [], alts := [], laidByText := true, laidKinds := [.handle, .sentinel, .sentinel, .sentinel, .sentinel, .sentinel, .sentinel, .sentinel, .sentinel, .sentinel, .sentinel, .sentinel, .sentinel, .sentinel, .sentinel, .sentinel], laidTests := true, laidLooks := .later }
def XdrWritesCardSaid : Prop := Claim7.holds Tryd.pinned (.plain (OpenSpec.ofChange xdrWritesSpec)) xdrWritesCard

/-- THE TIED CARD OF 'pigeonholeslaw1.XdrTwice'. -/
def xdrTwiceCard : Claim7 := { stood := { row := xdrTwiceRow, standIns := [], harness := (true, "482870bbd46ed4bc6ffca29a0df1511de430f11bd1ae754cf95f2c8c3e1dc451"), looks := true }, kinds := [], alts := [], laidByText := true, laidKinds := [.data, .sentinel, .sentinel, .sentinel, .pinned], laidTests := true, laidLooks := .later }
def XdrTwiceCardSaid : Prop := Claim7.holds Tryd.pinned (.plain (OpenSpec.ofChange xdrTwiceSpec)) xdrTwiceCard

/-- THE TIED CARD OF 'pigeonholeslaw1.XdrReads'. -/
def xdrReadsCard : Claim7 := { stood := { row := xdrReadsRow, standIns := [], harness := (true, "482870bbd46ed4bc6ffca29a0df1511de430f11bd1ae754cf95f2c8c3e1dc451"), looks := true }, kinds := [], alts := [], laidByText := true, laidKinds := [.data, .handle, .sentinel, .sentinel, .sentinel, .sentinel, .sentinel, .sentinel, .sentinel, .sentinel, .sentinel, .sentinel, .sentinel, .sentinel, .sentinel, .sentinel, .sentinel, .pinned], laidTests := true, laidLooks := .later }
def XdrReadsCardSaid : Prop := Claim7.holds Tryd.pinned (.plain (OpenSpec.ofChange xdrReadsSpec)) xdrReadsCard

/-- THE TIED CARD OF 'pigeonholeslaw1.NamesCheck'. -/
def namesCheckCard : Claim7 := { stood := { row := namesCheckRow, standIns := [], harness := (true, "482870bbd46ed4bc6ffca29a0df1511de430f11bd1ae754cf95f2c8c3e1dc451"), looks := true }, kinds := [], alts := [], laidByText := true, laidKinds := [.data, .handle, .sentinel, .sentinel, .sentinel, .sentinel, .sentinel, .sentinel, .sentinel, .sentinel, .sentinel, .sentinel, .sentinel, .sentinel, .sentinel, .sentinel, .sentinel, .pinned], laidTests := true, laidLooks := .later }
def NamesCheckCardSaid : Prop := Claim7.holds Tryd.pinned (.plain (OpenSpec.ofChange namesCheckSpec)) namesCheckCard

/-- THE TIED CARD OF 'pigeonholeslaw1.NamesJoin'. -/
def namesJoinCard : Claim7 := { stood := { row := namesJoinRow, standIns := [], harness := (true, "482870bbd46ed4bc6ffca29a0df1511de430f11bd1ae754cf95f2c8c3e1dc451"), looks := true }, kinds := [], alts := [], laidByText := true, laidKinds := [.data, .handle, .sentinel, .sentinel, .sentinel, .sentinel, .sentinel, .sentinel, .sentinel, .sentinel, .sentinel, .sentinel, .sentinel, .sentinel, .sentinel, .sentinel, .sentinel, .pinned], laidTests := true, laidLooks := .later }
def NamesJoinCardSaid : Prop := Claim7.holds Tryd.pinned (.plain (OpenSpec.ofChange namesJoinSpec)) namesJoinCard

/-- THE TIED CARD OF 'pigeonholeslaw1.NamesMatch'. -/
def namesMatchCard : Claim7 := { stood := { row := namesMatchRow, standIns := [], harness := (true, "482870bbd46ed4bc6ffca29a0df1511de430f11bd1ae754cf95f2c8c3e1dc451"), looks := true }, kinds := [], alts := [], laidByText := true, laidKinds := [.data, .handle, .sentinel, .sentinel, .sentinel, .sentinel, .sentinel, .sentinel, .sentinel, .sentinel, .sentinel, .sentinel, .sentinel, .sentinel, .sentinel, .sentinel, .sentinel, .pinned], laidTests := true, laidLooks := .later }
def NamesMatchCardSaid : Prop := Claim7.holds Tryd.pinned (.plain (OpenSpec.ofChange namesMatchSpec)) namesMatchCard

/-- THE TIED CARD OF 'pigeonholeslaw1.NamesStar'. -/
def namesStarCard : Claim7 := { stood := { row := namesStarRow, standIns := [], harness := (true, "482870bbd46ed4bc6ffca29a0df1511de430f11bd1ae754cf95f2c8c3e1dc451"), looks := true }, kinds := [], alts := [], laidByText := true, laidKinds := [.data, .handle, .sentinel, .sentinel, .sentinel, .sentinel, .sentinel, .sentinel, .sentinel, .sentinel, .sentinel, .sentinel, .sentinel, .sentinel, .sentinel, .sentinel, .sentinel, .pinned], laidTests := true, laidLooks := .later }
def NamesStarCardSaid : Prop := Claim7.holds Tryd.pinned (.plain (OpenSpec.ofChange namesStarSpec)) namesStarCard

/-- THE SECOND FORM's CARD OF 'pigeonholeslaw1.NodesStale'. -/
def nodesStaleUptoCard : Claim7 := { stood := { row := nodesStaleUptoRow, standIns := [], harness := (true, "482870bbd46ed4bc6ffca29a0df1511de430f11bd1ae754cf95f2c8c3e1dc451"), looks := true }, kinds := [], alts := [], laidByText := true, laidKinds := [.handle, .sentinel, .sentinel, .sentinel, .sentinel, .sentinel, .sentinel, .sentinel, .sentinel, .sentinel, .sentinel, .sentinel, .sentinel, .sentinel, .sentinel, .sentinel], laidTests := true, laidLooks := .later }
def NodesStaleUptoCardSaid : Prop := Claim7.holds Tryd.pinned (.plain (OpenSpec.upto nodesStaleSpec)) nodesStaleUptoCard

/-- THE SECOND FORM's CARD OF 'pigeonholeslaw1.AttrSame'. -/
def attrSameUptoCard : Claim7 := { stood := { row := attrSameUptoRow, standIns := [], harness := (true, "482870bbd46ed4bc6ffca29a0df1511de430f11bd1ae754cf95f2c8c3e1dc451"), looks := true }, kinds := [], alts := [], laidByText := true, laidKinds := [.handle, .sentinel, .sentinel, .sentinel, .sentinel, .sentinel, .sentinel, .sentinel, .sentinel, .sentinel, .sentinel, .sentinel, .sentinel, .sentinel, .sentinel, .sentinel], laidTests := true, laidLooks := .later }
def AttrSameUptoCardSaid : Prop := Claim7.holds Tryd.pinned (.plain (OpenSpec.upto attrSameSpec)) attrSameUptoCard

/-- THE SECOND FORM's CARD OF 'pigeonholeslaw1.NodesActs'. -/
def nodesActsUptoCard : Claim7 := { stood := { row := nodesActsUptoRow, standIns := [], harness := (true, "482870bbd46ed4bc6ffca29a0df1511de430f11bd1ae754cf95f2c8c3e1dc451"), looks := true }, kinds := [], alts := [], laidByText := true, laidKinds := [.handle, .sentinel, .sentinel, .sentinel, .sentinel, .sentinel, .sentinel, .sentinel, .sentinel, .sentinel, .sentinel, .sentinel, .sentinel, .sentinel, .sentinel, .sentinel], laidTests := true, laidLooks := .later }
def NodesActsUptoCardSaid : Prop := Claim7.holds Tryd.pinned (.plain (OpenSpec.upto nodesActsSpec)) nodesActsUptoCard

/-- THE SECOND FORM's CARD OF 'pigeonholeslaw1.AttrReads'. -/
def attrReadsUptoCard : Claim7 := { stood := { row := attrReadsUptoRow, standIns := [], harness := (true, "482870bbd46ed4bc6ffca29a0df1511de430f11bd1ae754cf95f2c8c3e1dc451"), looks := true }, kinds := [], alts := [], laidByText := true, laidKinds := [.handle, .sentinel, .sentinel, .sentinel, .sentinel, .sentinel, .sentinel, .sentinel, .sentinel, .sentinel, .sentinel, .sentinel, .sentinel, .sentinel, .sentinel, .sentinel], laidTests := true, laidLooks := .later }
def AttrReadsUptoCardSaid : Prop := Claim7.holds Tryd.pinned (.plain (OpenSpec.upto attrReadsSpec)) attrReadsUptoCard

/-- THE SECOND FORM's CARD OF 'pigeonholeslaw1.AttrCodes'. -/
def attrCodesUptoCard : Claim7 := { stood := { row := attrCodesUptoRow, standIns := [], harness := (true, "482870bbd46ed4bc6ffca29a0df1511de430f11bd1ae754cf95f2c8c3e1dc451"), looks := true }, kinds := [], alts := [], laidByText := true, laidKinds := [.handle, .sentinel, .sentinel, .sentinel, .sentinel, .sentinel, .sentinel, .sentinel, .sentinel, .sentinel, .sentinel, .sentinel, .sentinel, .sentinel, .sentinel, .sentinel], laidTests := true, laidLooks := .later }
def AttrCodesUptoCardSaid : Prop := Claim7.holds Tryd.pinned (.plain (OpenSpec.upto attrCodesSpec)) attrCodesUptoCard

/-- THE SECOND FORM's CARD OF 'pigeonholeslaw1.XdrWrites'. -/
def xdrWritesUptoCard : Claim7 := { stood := { row := xdrWritesUptoRow, standIns := [], harness := (true, "482870bbd46ed4bc6ffca29a0df1511de430f11bd1ae754cf95f2c8c3e1dc451"), looks := true }, kinds := [], alts := [], laidByText := true, laidKinds := [.handle, .sentinel, .sentinel, .sentinel, .sentinel, .sentinel, .sentinel, .sentinel, .sentinel, .sentinel, .sentinel, .sentinel, .sentinel, .sentinel, .sentinel, .sentinel], laidTests := true, laidLooks := .later }
def XdrWritesUptoCardSaid : Prop := Claim7.holds Tryd.pinned (.plain (OpenSpec.upto xdrWritesSpec)) xdrWritesUptoCard

/-- THE SECOND FORM's CARD OF 'pigeonholeslaw1.XdrTwice'. -/
def xdrTwiceUptoCard : Claim7 := { stood := { row := xdrTwiceUptoRow, standIns := [], harness := (true, "482870bbd46ed4bc6ffca29a0df1511de430f11bd1ae754cf95f2c8c3e1dc451"), looks := true }, kinds := [], alts := [], laidByText := true, laidKinds := [.data, .sentinel, .sentinel, .sentinel, .pinned], laidTests := true, laidLooks := .later }
def XdrTwiceUptoCardSaid : Prop := Claim7.holds Tryd.pinned (.plain (OpenSpec.upto xdrTwiceSpec)) xdrTwiceUptoCard

/-- THE SECOND FORM's CARD OF 'pigeonholeslaw1.XdrReads'. -/
def xdrReadsUptoCard : Claim7 := { stood := { row := xdrReadsUptoRow, standIns := [], harness := (true, "482870bbd46ed4bc6ffca29a0df1511de430f11bd1ae754cf95f2c8c3e1dc451"), looks := true }, kinds := [], alts := [], laidByText := true, laidKinds := [.data, .handle, .sentinel, .sentinel, .sentinel, .sentinel, .sentinel, .sentinel, .sentinel, .sentinel, .sentinel, .sentinel, .sentinel, .sentinel, .sentinel, .sentinel, .sentinel, .pinned], laidTests := true, laidLooks := .later }
def XdrReadsUptoCardSaid : Prop := Claim7.holds Tryd.pinned (.plain (OpenSpec.upto xdrReadsSpec)) xdrReadsUptoCard

/-- THE SECOND FORM's CARD OF 'pigeonholeslaw1.NamesCheck'. -/
def namesCheckUptoCard : Claim7 := { stood := { row := namesCheckUptoRow, standIns := [], harness := (true, "482870bbd46ed4bc6ffca29a0df1511de430f11bd1ae754cf95f2c8c3e1dc451"), looks := true }, kinds := [], alts := [], laidByText := true, laidKinds := [.data, .handle, .sentinel, .sentinel, .sentinel, .sentinel, .sentinel, .sentinel, .sentinel, .sentinel, .sentinel, .sentinel, .sentinel, .sentinel, .sentinel, .sentinel, .sentinel, .pinned], laidTests := true, laidLooks := .later }
def NamesCheckUptoCardSaid : Prop := Claim7.holds Tryd.pinned (.plain (OpenSpec.upto namesCheckSpec)) namesCheckUptoCard

/-- THE SECOND FORM's CARD OF 'pigeonholeslaw1.NamesJoin'. -/
def namesJoinUptoCard : Claim7 := { stood := { row := namesJoinUptoRow, standIns := [], harness := (true, "482870bbd46ed4bc6ffca29a0df1511de430f11bd1ae754cf95f2c8c3e1dc451"), looks := true }, kinds := [], alts := [], laidByText := true, laidKinds := [.data, .handle, .sentinel, .sentinel, .sentinel, .sentinel, .sentinel, .sentinel, .sentinel, .sentinel, .sentinel, .sentinel, .sentinel, .sentinel, .sentinel, .sentinel, .sentinel, .pinned], laidTests := true, laidLooks := .later }
def NamesJoinUptoCardSaid : Prop := Claim7.holds Tryd.pinned (.plain (OpenSpec.upto namesJoinSpec)) namesJoinUptoCard

/-- THE SECOND FORM's CARD OF 'pigeonholeslaw1.NamesMatch'. -/
def namesMatchUptoCard : Claim7 := { stood := { row := namesMatchUptoRow, standIns := [], harness := (true, "482870bbd46ed4bc6ffca29a0df1511de430f11bd1ae754cf95f2c8c3e1dc451"), looks := true }, kinds := [], alts := [], laidByText := true, laidKinds := [.data, .handle, .sentinel, .sentinel, .sentinel, .sentinel, .sentinel, .sentinel, .sentinel, .sentinel, .sentinel, .sentinel, .sentinel, .sentinel, .sentinel, .sentinel, .sentinel, .pinned], laidTests := true, laidLooks := .later }
def NamesMatchUptoCardSaid : Prop := Claim7.holds Tryd.pinned (.plain (OpenSpec.upto namesMatchSpec)) namesMatchUptoCard

/-- THE SECOND FORM's CARD OF 'pigeonholeslaw1.NamesStar'. -/
def namesStarUptoCard : Claim7 := { stood := { row := namesStarUptoRow, standIns := [], harness := (true, "482870bbd46ed4bc6ffca29a0df1511de430f11bd1ae754cf95f2c8c3e1dc451"), looks := true }, kinds := [], alts := [], laidByText := true, laidKinds := [.data, .handle, .sentinel, .sentinel, .sentinel, .sentinel, .sentinel, .sentinel, .sentinel, .sentinel, .sentinel, .sentinel, .sentinel, .sentinel, .sentinel, .sentinel, .sentinel, .pinned], laidTests := true, laidLooks := .later }
def NamesStarUptoCardSaid : Prop := Claim7.holds Tryd.pinned (.plain (OpenSpec.upto namesStarSpec)) namesStarUptoCard
end Rows
end Go.Proofs.YtdhegblgghembaaDoor
