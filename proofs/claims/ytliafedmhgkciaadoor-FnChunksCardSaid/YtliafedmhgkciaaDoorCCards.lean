/-
 DERIVED. GIVEN WITH THE SEED: THE CARDS: each row of YtliafedmhgkciaaDoorRows.lean that lists a variable, with what it lists TIED to the program's text (the seventh form; the later family's looks); each row that meets fmt, with fmt's text TOLD by the authors' own Lean function (tested against real Go, not proved from fmt's source: count such statements apart). THE CARD IS WHAT COUNTS. Prove the row's statement (the work); the ties are given (YtliafedmhgkciaaDoorTie.lean); close each card by the builder's one call (the guide's Derived/Test/ToyasCard.lean, 'card_holds'). Laid BY PROGRAM, IN A SANDBOX (cutbox-door.mjs). By AI agents, Wed Nov 11 2026. No macro, syntax, notation, axiom, sorry.
-/
import Derived.Test.YtliafedmhgkciaaDoorCP0
import Derived.Test.YtliafedmhgkciaaDoorRows
import GoSem.ClaimSeven
namespace Go.Proofs.YtliafedmhgkciaaDoor
namespace Rows

def fnChunksCard : Claim7 := { stood := { row := fnChunksRow, standIns := [], harness := (true, "bb40ab821b782e474bc767b7b6853383a496d923a253c395685b67e9e52bc578"), looks := false }, kinds := [], alts := [], laidByText := true, laidKinds := [.data, .pinned], laidTests := true, laidLooks := .later }
def FnChunksCardSaid : Prop := Claim7.holds Tryd.pinned (.plain (OpenSpec.ofChange fnChunksSpec)) fnChunksCard

def fnUtf8Card : Claim7 := { stood := { row := fnUtf8Row, standIns := [], harness := (true, "bb40ab821b782e474bc767b7b6853383a496d923a253c395685b67e9e52bc578"), looks := false }, kinds := [], alts := [], laidByText := true, laidKinds := [.data, .pinned], laidTests := true, laidLooks := .later }
def FnUtf8CardSaid : Prop := Claim7.holds Tryd.pinned (.plain (OpenSpec.ofChange fnUtf8Spec)) fnUtf8Card

def fnEncodedCard : Claim7 := { stood := { row := fnEncodedRow, standIns := [], harness := (true, "bb40ab821b782e474bc767b7b6853383a496d923a253c395685b67e9e52bc578"), looks := false }, kinds := [], alts := [], laidByText := true, laidKinds := [.data, .pinned], laidTests := true, laidLooks := .later }
def FnEncodedCardSaid : Prop := Claim7.holds Tryd.pinned (.plain (OpenSpec.ofChange fnEncodedSpec)) fnEncodedCard

def fnChunksUptoCard : Claim7 := { stood := { row := fnChunksUptoRow, standIns := [], harness := (true, "bb40ab821b782e474bc767b7b6853383a496d923a253c395685b67e9e52bc578"), looks := false }, kinds := [], alts := [], laidByText := true, laidKinds := [.data, .pinned], laidTests := true, laidLooks := .later }
def FnChunksUptoCardSaid : Prop := Claim7.holds Tryd.pinned (.plain (OpenSpec.upto fnChunksSpec)) fnChunksUptoCard

def fnUtf8UptoCard : Claim7 := { stood := { row := fnUtf8UptoRow, standIns := [], harness := (true, "bb40ab821b782e474bc767b7b6853383a496d923a253c395685b67e9e52bc578"), looks := false }, kinds := [], alts := [], laidByText := true, laidKinds := [.data, .pinned], laidTests := true, laidLooks := .later }
def FnUtf8UptoCardSaid : Prop := Claim7.holds Tryd.pinned (.plain (OpenSpec.upto fnUtf8Spec)) fnUtf8UptoCard

def fnEncodedUptoCard : Claim7 := { stood := { row := fnEncodedUptoRow, standIns := [], harness := (true, "bb40ab821b782e474bc767b7b6853383a496d923a253c395685b67e9e52bc578"), looks := false }, kinds := [], alts := [], laidByText := true, laidKinds := [.data, .pinned], laidTests := true, laidLooks := .later }
def FnEncodedUptoCardSaid : Prop := Claim7.holds Tryd.pinned (.plain (OpenSpec.upto fnEncodedSpec)) fnEncodedUptoCard
end Rows
end Go.Proofs.YtliafedmhgkciaaDoor
