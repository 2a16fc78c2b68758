/-
  DERIVED. GIVEN WITH THE SEED: THE CARDS: each row of YtekmiepdodaidaaDoorRows.lean that lists a variable, with what it lists TIED to the program's text (the seventh form; the later family's looks); each row that meets fmt, with fmt's text TOLD by the authors' own Lean function (tested against real Go, not proved from fmt's source: count such statements apart). THE CARD IS WHAT COUNTS. Prove the row's statement (the work); the ties are given (YtekmiepdodaidaaDoorTie.lean); close each card by the builder's one call (the guide's Derived/Test/ToyasCard.lean, 'card_holds'). Laid BY PROGRAM, IN A SANDBOX (cutbox-door.mjs). By AI agents, Wed Nov 11 2026. No macro, syntax, notation, axiom, sorry.
-/
import Derived.Test.YtekmiepdodaidaaDoorRows
import GoSem.ClaimSeven
namespace Go.Proofs.YtekmiepdodaidaaDoor
namespace Rows

/-- THE TIED CARD OF 'tickinglaw07.TestsBest'. -/
def testsBestCard : Claim7 := { stood := { row := testsBestRow, standIns := [], harness := (true, "f4b0649775545c89ce4bb0aef9670ce1fcc1d89dad0d3821cecbbd2a7fdf76f2"), looks := false }, kinds := [], alts := [], laidByText := true, laidKinds := [.data, .data], laidTests := true, laidLooks := .later }
def TestsBestCardSaid : Prop := Claim7.holds Tryd.pinned (.plain (OpenSpec.ofChange testsBestSpec)) testsBestCard

/-- THE TIED CARD OF 'tickinglaw07.TestsChecks'. -/
def testsChecksCard : Claim7 := { stood := { row := testsChecksRow, standIns := [], harness := (true, "f4b0649775545c89ce4bb0aef9670ce1fcc1d89dad0d3821cecbbd2a7fdf76f2"), looks := false }, kinds := [], alts := [], laidByText := true, laidKinds := [.data, .data], laidTests := true, laidLooks := .later }
def TestsChecksCardSaid : Prop := Claim7.holds Tryd.pinned (.plain (OpenSpec.ofChange testsChecksSpec)) testsChecksCard

/-- THE TIED CARD OF 'tickinglaw07.TestsGreedy'. -/
def testsGreedyCard : Claim7 := { stood := { row := testsGreedyRow, standIns := [], harness := (true, "f4b0649775545c89ce4bb0aef9670ce1fcc1d89dad0d3821cecbbd2a7fdf76f2"), looks := false }, kinds := [], alts := [], laidByText := true, laidKinds := [.data, .data], laidTests := true, laidLooks := .later }
def TestsGreedyCardSaid : Prop := Claim7.holds Tryd.pinned (.plain (OpenSpec.ofChange testsGreedySpec)) testsGreedyCard

/-- THE TIED CARD OF 'tickinglaw07.TestsLeft'. -/
def testsLeftCard : Claim7 := { stood := { row := testsLeftRow, standIns := [], harness := (true, "f4b0649775545c89ce4bb0aef9670ce1fcc1d89dad0d3821cecbbd2a7fdf76f2"), looks := false }, kinds := [], alts := [], laidByText := true, laidKinds := [.data, .data], laidTests := true, laidLooks := .later }
def TestsLeftCardSaid : Prop := Claim7.holds Tryd.pinned (.plain (OpenSpec.ofChange testsLeftSpec)) testsLeftCard

/-- THE TIED CARD OF 'tickinglaw07.TestsLeast'. -/
def testsLeastCard : Claim7 := { stood := { row := testsLeastRow, standIns := [], harness := (true, "f4b0649775545c89ce4bb0aef9670ce1fcc1d89dad0d3821cecbbd2a7fdf76f2"), looks := false }, kinds := [], alts := [], laidByText := true, laidKinds := [.data, .data], laidTests := true, laidLooks := .later }
def TestsLeastCardSaid : Prop := Claim7.holds Tryd.pinned (.plain (OpenSpec.ofChange testsLeastSpec)) testsLeastCard

/-- THE TIED CARD OF 'tickinglaw07.TestsMore'. -/
def testsMoreCard : Claim7 := { stood := { row := testsMoreRow, standIns := [], harness := (true, "f4b0649775545c89ce4bb0aef9670ce1fcc1d89dad0d3821cecbbd2a7fdf76f2"), looks := false }, kinds := [], alts := [], laidByText := true, laidKinds := [.data, .data], laidTests := true, laidLooks := .later }
def TestsMoreCardSaid : Prop := Claim7.holds Tryd.pinned (.plain (OpenSpec.ofChange testsMoreSpec)) testsMoreCard

/-- THE TIED CARD OF 'tickinglaw07.TestsWays'. -/
def testsWaysCard : Claim7 := { stood := { row := testsWaysRow, standIns := [], harness := (true, "f4b0649775545c89ce4bb0aef9670ce1fcc1d89dad0d3821cecbbd2a7fdf76f2"), looks := false }, kinds := [], alts := [], laidByText := true, laidKinds := [.data, .data], laidTests := true, laidLooks := .later }
def TestsWaysCardSaid : Prop := Claim7.holds Tryd.pinned (.plain (OpenSpec.ofChange testsWaysSpec)) testsWaysCard

/-- THE TIED CARD OF 'tickinglaw07.TestsDoubles'. -/
def testsDoublesCard : Claim7 := { stood := { row := testsDoublesRow, standIns := [], harness := (true, "f4b0649775545c89ce4bb0aef9670ce1fcc1d89dad0d3821cecbbd2a7fdf76f2"), looks := false }, kinds := [], alts := [], laidByText := true, laidKinds := [.data, .data], laidTests := true, laidLooks := .later }
def TestsDoublesCardSaid : Prop := Claim7.holds Tryd.pinned (.plain (OpenSpec.ofChange testsDoublesSpec)) testsDoublesCard

/-- THE TIED CARD OF 'tickinglaw07.TestsCovers'. -/
def testsCoversCard : Claim7 := { stood := { row := testsCoversRow, standIns := [], harness := (true, "f4b0649775545c89ce4bb0aef9670ce1fcc1d89dad0d3821cecbbd2a7fdf76f2"), looks := false }, kinds := [], alts := [], laidByText := true, laidKinds := [.data, .data], laidTests := true, laidLooks := .later }
def TestsCoversCardSaid : Prop := Claim7.holds Tryd.pinned (.plain (OpenSpec.ofChange testsCoversSpec)) testsCoversCard

/-- THE TIED CARD OF 'tickinglaw07.TestsOwn'. -/
def testsOwnCard : Claim7 := { stood := { row := testsOwnRow, standIns := [], harness := (true, "f4b0649775545c89ce4bb0aef9670ce1fcc1d89dad0d3821cecbbd2a7fdf76f2"), looks := false }, kinds := [], alts := [], laidByText := true, laidKinds := [.data, .data], laidTests := true, laidLooks := .later }
def TestsOwnCardSaid : Prop := Claim7.holds Tryd.pinned (.plain (OpenSpec.ofChange testsOwnSpec)) testsOwnCard

/-- THE SECOND FORM's CARD OF 'tickinglaw07.TestsBest'. -/
def testsBestUptoCard : Claim7 := { stood := { row := testsBestUptoRow, standIns := [], harness := (true, "f4b0649775545c89ce4bb0aef9670ce1fcc1d89dad0d3821cecbbd2a7fdf76f2"), looks := false }, kinds := [], alts := [], laidByText := true, laidKinds := [.data, .data], laidTests := true, laidLooks := .later }
def TestsBestUptoCardSaid : Prop := Claim7.holds Tryd.pinned (.plain (OpenSpec.upto testsBestSpec)) testsBestUptoCard

/-- THE SECOND FORM's CARD OF 'tickinglaw07.TestsChecks'. -/
def testsChecksUptoCard : Claim7 := { stood := { row := testsChecksUptoRow, standIns := [], harness := (true, "f4b0649775545c89ce4bb0aef9670ce1fcc1d89dad0d3821cecbbd2a7fdf76f2"), looks := false }, kinds := [], alts := [], laidByText := true, laidKinds := [.data, .data], laidTests := true, laidLooks := .later }
def TestsChecksUptoCardSaid : Prop := Claim7.holds Tryd.pinned (.plain (OpenSpec.upto testsChecksSpec)) testsChecksUptoCard

/-- THE SECOND FORM's CARD OF 'tickinglaw07.TestsGreedy'. -/
def testsGreedyUptoCard : Claim7 := { stood := { row := testsGreedyUptoRow, standIns := [], harness := (true, "f4b0649775545c89ce4bb0aef9670ce1fcc1d89dad0d3821cecbbd2a7fdf76f2"), looks := false }, kinds := [], alts := [], laidByText := true, laidKinds := [.data, .data], laidTests := true, laidLooks := .later }
def TestsGreedyUptoCardSaid : Prop := Claim7.holds Tryd.pinned (.plain (OpenSpec.upto testsGreedySpec)) testsGreedyUptoCard

/-- THE SECOND FORM's CARD OF 'tickinglaw07.TestsLeft'. -/
def testsLeftUptoCard : Claim7 := { stood := { row := testsLeftUptoRow, standIns := [], harness := (true, "f4b0649775545c89ce4bb0aef9670ce1fcc1d89dad0d3821cecbbd2a7fdf76f2"), looks := false }, kinds := [], alts := [], laidByText := true, laidKinds := [.data, .data], laidTests := true, laidLooks := .later }
def TestsLeftUptoCardSaid : Prop := Claim7.holds Tryd.pinned (.plain (OpenSpec.upto testsLeftSpec)) testsLeftUptoCard

/-- THE SECOND FORM's CARD OF 'tickinglaw07.TestsLeast'. -/
def testsLeastUptoCard : Claim7 := { stood := { row := testsLeastUptoRow, standIns := [], harness := (true, "f4b0649775545c89ce4bb0aef9670ce1fcc1d89dad0d3821cecbbd2a7fdf76f2"), looks := false }, kinds := [], alts := [], laidByText := true, laidKinds := [.data, .data], laidTests := true, laidLooks := .later }
def TestsLeastUptoCardSaid : Prop := Claim7.holds Tryd.pinned (.plain (OpenSpec.upto testsLeastSpec)) testsLeastUptoCard

/-- THE SECOND FORM's CARD OF 'tickinglaw07.TestsMore'. -/
def testsMoreUptoCard : Claim7 := { stood := { row := testsMoreUptoRow, standIns := [], harness := (true, "f4b0649775545c89ce4bb0aef9670ce1fcc1d89dad0d3821cecbbd2a7fdf76f2"), looks := false }, kinds := [], alts := [], laidByText := true, laidKinds := [.data, .data], laidTests := true, laidLooks := .later }
def TestsMoreUptoCardSaid : Prop := Claim7.holds Tryd.pinned (.plain (OpenSpec.upto testsMoreSpec)) testsMoreUptoCard

/-- THE SECOND FORM's CARD OF 'tickinglaw07.TestsWays'. -/
def testsWaysUptoCard : Claim7 := { stood := { row := testsWaysUptoRow, standIns := [], harness := (true, "f4b0649775545c89ce4bb0aef9670ce1fcc1d89dad0d3821cecbbd2a7fdf76f2"), looks := false }, kinds := [], alts := [], laidByText := true, laidKinds := [.data, .data], laidTests := true, laidLooks := .later }
def TestsWaysUptoCardSaid : Prop := Claim7.holds Tryd.pinned (.plain (OpenSpec.upto testsWaysSpec)) testsWaysUptoCard

/-- THE SECOND FORM's CARD OF 'tickinglaw07.TestsDoubles'. -/
def testsDoublesUptoCard : Claim7 := { stood := { row := testsDoublesUptoRow, standIns := [], harness := (true, "f4b0649775545c89ce4bb0aef9670ce1fcc1d89dad0d3821cecbbd2a7fdf76f2"), looks := false }, kinds := [], alts := [], laidByText := true, laidKinds := [.data, .data], laidTests := true, laidLooks := .later }
def TestsDoublesUptoCardSaid : Prop := Claim7.holds Tryd.pinned (.plain (OpenSpec.upto testsDoublesSpec)) testsDoublesUptoCard

/-- THE SECOND FORM's CARD OF 'tickinglaw07.TestsCovers'. -/
def testsCoversUptoCard : Claim7 := { stood := { row := testsCoversUptoRow, standIns := [], harness := (true, "f4b0649775545c89ce4bb0aef9670ce1fcc1d89dad0d3821cecbbd2a7fdf76f2"), looks := false }, kinds := [], alts := [], laidByText := true, laidKinds := [.data, .data], laidTests := true, laidLooks := .later }
def TestsCoversUptoCardSaid : Prop := Claim7.holds Tryd.pinned (.plain (OpenSpec.upto testsCoversSpec)) testsCoversUptoCard

/-- THE SECOND FORM's CARD OF 'tickinglaw07.TestsOwn'. -/
def testsOwnUptoCard : Claim7 := { stood := { row := testsOwnUptoRow, standIns := [], harness := (true, "f4b0649775545c89ce4bb0aef9670ce1fcc1d89dad0d3821cecbbd2a7fdf76f2"), looks := false }, kinds := [], alts := [], laidByText := true, laidKinds := [.data, .data], laidTests := true, laidLooks := .later }
def TestsOwnUptoCardSaid : Prop := Claim7.holds Tryd.pinned (.plain (OpenSpec.upto testsOwnSpec)) testsOwnUptoCard
end Rows
end Go.Proofs.YtekmiepdodaidaaDoor
