/-
 DERIVED. GIVEN WITH THE SEED: THE CARDS: each row of YtpmdecdomfoaoaaDoorRows.lean that lists a variable, with what it lists TIED to the program's text (the seventh form; the later family's looks); each row that meets fmt, with fmt's text TOLD by the authors' own Lean function (tested against real Go, not proved from fmt's source: count such statements apart). THE CARD IS WHAT COUNTS. Prove the row's statement (the work); the ties are given (YtpmdecdomfoaoaaDoorTie.lean); close each card by the builder's one call (the guide's Derived/Test/ToyasCard.lean, 'card_holds'). Laid BY PROGRAM, IN A SANDBOX (cutbox-door.mjs). By AI agents, Wed Nov 11 2026. No macro, syntax, notation, axiom, sorry.
-/
import Derived.Test.YtpmdecdomfoaoaaDoorCP0
import Derived.Test.YtpmdecdomfoaoaaDoorRows
import GoSem.ClaimSeven
namespace Go.Proofs.YtpmdecdomfoaoaaDoor
namespace Rows

def fnExactGoodSessionCard : Claim7 := { stood := { row := fnExactGoodSessionRow, standIns := [], harness := (true, "e3957ed443ce3bccd1971816fa06f278c40d9cfb455f51213862650b5d035e40"), looks := false }, kinds := [], alts := [], laidByText := true, laidKinds := [.data, .pinned], laidTests := true, laidLooks := .later }
def FnExactGoodSessionCardSaid : Prop := Claim7.holds Tryd.pinned (.plain (OpenSpec.ofChange fnExactGoodSessionSpec)) fnExactGoodSessionCard

def fnExactFeedDecoderCard : Claim7 := { stood := { row := fnExactFeedDecoderRow, standIns := [], harness := (true, "e3957ed443ce3bccd1971816fa06f278c40d9cfb455f51213862650b5d035e40"), looks := false }, kinds := [], alts := [], laidByText := true, laidKinds := [.data, .pinned], laidTests := true, laidLooks := .later }
def FnExactFeedDecoderCardSaid : Prop := Claim7.holds Tryd.pinned (.plain (OpenSpec.ofChange fnExactFeedDecoderSpec)) fnExactFeedDecoderCard

def fnExactDecodeAllCard : Claim7 := { stood := { row := fnExactDecodeAllRow, standIns := [], harness := (true, "e3957ed443ce3bccd1971816fa06f278c40d9cfb455f51213862650b5d035e40"), looks := false }, kinds := [], alts := [], laidByText := true, laidKinds := [.data, .pinned], laidTests := true, laidLooks := .later }
def FnExactDecodeAllCardSaid : Prop := Claim7.holds Tryd.pinned (.plain (OpenSpec.ofChange fnExactDecodeAllSpec)) fnExactDecodeAllCard

def fnExactGoodSessionUptoCard : Claim7 := { stood := { row := fnExactGoodSessionUptoRow, standIns := [], harness := (true, "e3957ed443ce3bccd1971816fa06f278c40d9cfb455f51213862650b5d035e40"), looks := false }, kinds := [], alts := [], laidByText := true, laidKinds := [.data, .pinned], laidTests := true, laidLooks := .later }
def FnExactGoodSessionUptoCardSaid : Prop := Claim7.holds Tryd.pinned (.plain (OpenSpec.upto fnExactGoodSessionSpec)) fnExactGoodSessionUptoCard

def fnExactFeedDecoderUptoCard : Claim7 := { stood := { row := fnExactFeedDecoderUptoRow, standIns := [], harness := (true, "e3957ed443ce3bccd1971816fa06f278c40d9cfb455f51213862650b5d035e40"), looks := false }, kinds := [], alts := [], laidByText := true, laidKinds := [.data, .pinned], laidTests := true, laidLooks := .later }
def FnExactFeedDecoderUptoCardSaid : Prop := Claim7.holds Tryd.pinned (.plain (OpenSpec.upto fnExactFeedDecoderSpec)) fnExactFeedDecoderUptoCard

def fnExactDecodeAllUptoCard : Claim7 := { stood := { row := fnExactDecodeAllUptoRow, standIns := [], harness := (true, "e3957ed443ce3bccd1971816fa06f278c40d9cfb455f51213862650b5d035e40"), looks := false }, kinds := [], alts := [], laidByText := true, laidKinds := [.data, .pinned], laidTests := true, laidLooks := .later }
def FnExactDecodeAllUptoCardSaid : Prop := Claim7.holds Tryd.pinned (.plain (OpenSpec.upto fnExactDecodeAllSpec)) fnExactDecodeAllUptoCard
end Rows
end Go.Proofs.YtpmdecdomfoaoaaDoor
