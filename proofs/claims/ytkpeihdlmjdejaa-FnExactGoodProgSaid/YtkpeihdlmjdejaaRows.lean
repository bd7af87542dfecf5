/-
  No cell of these rows narrows 'for every input' (looked for: loops, veiled, ifaces, maps, wideKeys, modest, calm, conditions, laid).
  DERIVED. THE GIVEN ROWS OF THIS SEAT. 10 by the template 'for every input the law returns true; each argument reads behind the call as it read before'; 0 by the template 'total and deterministic' (their statements: YtkpeihdlmjdejaaTotals.lean).
  GIVEN WITH THE SEED: the statements are not yours to turn. If you find one false, say at which input.
  Laid BY PROGRAM, IN A SANDBOX (cutbox-rows.mjs): the forced cells as the released guide's own fill.sh prints them over the translation fa0a99987bb9d26b… (all of the seat's roots in one cut). By AI agents, Wed Nov 11 2026. No macro, syntax, notation, axiom, sorry.
-/
import Derived.Test.YtkpeihdlmjdejaaChecked
import GoSem.Claim
import GoSem.ClaimJoined
import GoSem.ClaimMapViews
import Derived.JoinedTies
import Derived.KernelRfl
namespace Go.Proofs.Ytkpeihdlmjdejaa
/- THE CELL 'sum', in the pinned program and in every row, IS THE sha256 OF THE DUMP (.gsa) THAT YtkpeihdlmjdejaaProg.lean LOADS. Nothing in Lean hashes anything: it is a label: what it is worth is what the hold of that sum in a sandbox is worth. -/
noncomputable def Try.pinned : Pinned := { name := "ytkpeihdlmjdejaa", sum := "fa0a99987bb9d26b839025c5932492bd3b6d887e3a985df354431fdd266f5fca", checked := Try.checked }
namespace Rows
def none {H : Type} : Left H := { results := [], args := [] }

/-- 'laws.FnExactFindIn': WHATEVER THE INPUT: true; the input reads as it did. -/
def fnExactFindInSpec : ChangeSpec := { name := "fnExactFindIn", fn := fun _ => fun
  | [d1, d2] => { results := [.lit (.bool true)], args := [d1, d2] }
  | _ => none }
def fnExactFindInRow : OpenClaim := { program := "ytkpeihdlmjdejaa", sum := "fa0a99987bb9d26b839025c5932492bd3b6d887e3a985df354431fdd266f5fca", func := "loop.example/g00692/laws.FnExactFindIn", spec := "fnExactFindIn", unfollowed := true, recurses := true, apart := false }
def FnExactFindInSaid : Prop := fnExactFindInRow.holds Try.pinned (OpenSpec.ofChange fnExactFindInSpec)

/-- ITS FALSE NEIGHBOUR: 'it returns false'. Refute it at one input. -/
def fnExactFindInWrong : ChangeSpec := { name := "fnExactFindIn", fn := fun _ => fun
  | [d1, d2] => { results := [.lit (.bool false)], args := [d1, d2] }
  | _ => none }
def FnExactFindInWrongFalsely : Prop := fnExactFindInRow.holds Try.pinned (OpenSpec.ofChange fnExactFindInWrong)

/-- 'laws.FnExactLongestAt': WHATEVER THE INPUT: true; the input reads as it did. -/
def fnExactLongestAtSpec : ChangeSpec := { name := "fnExactLongestAt", fn := fun _ => fun
  | [d1, d2, d3] => { results := [.lit (.bool true)], args := [d1, d2, d3] }
  | _ => none }
def fnExactLongestAtRow : OpenClaim := { program := "ytkpeihdlmjdejaa", sum := "fa0a99987bb9d26b839025c5932492bd3b6d887e3a985df354431fdd266f5fca", func := "loop.example/g00692/laws.FnExactLongestAt", spec := "fnExactLongestAt", unfollowed := true, recurses := true, apart := false }
def FnExactLongestAtSaid : Prop := fnExactLongestAtRow.holds Try.pinned (OpenSpec.ofChange fnExactLongestAtSpec)

/-- ITS FALSE NEIGHBOUR: 'it returns false'. Refute it at one input. -/
def fnExactLongestAtWrong : ChangeSpec := { name := "fnExactLongestAt", fn := fun _ => fun
  | [d1, d2, d3] => { results := [.lit (.bool false)], args := [d1, d2, d3] }
  | _ => none }
def FnExactLongestAtWrongFalsely : Prop := fnExactLongestAtRow.holds Try.pinned (OpenSpec.ofChange fnExactLongestAtWrong)

/-- 'laws.FnExactFiresAt': WHATEVER THE INPUT: true; the input reads as it did. -/
def fnExactFiresAtSpec : ChangeSpec := { name := "fnExactFiresAt", fn := fun _ => fun
  | [d1, d2] => { results := [.lit (.bool true)], args := [d1, d2] }
  | _ => none }
def fnExactFiresAtRow : OpenClaim := { program := "ytkpeihdlmjdejaa", sum := "fa0a99987bb9d26b839025c5932492bd3b6d887e3a985df354431fdd266f5fca", func := "loop.example/g00692/laws.FnExactFiresAt", spec := "fnExactFiresAt", unfollowed := true, recurses := true, apart := false }
def FnExactFiresAtSaid : Prop := fnExactFiresAtRow.holds Try.pinned (OpenSpec.ofChange fnExactFiresAtSpec)

/-- ITS FALSE NEIGHBOUR: 'it returns false'. Refute it at one input. -/
def fnExactFiresAtWrong : ChangeSpec := { name := "fnExactFiresAt", fn := fun _ => fun
  | [d1, d2] => { results := [.lit (.bool false)], args := [d1, d2] }
  | _ => none }
def FnExactFiresAtWrongFalsely : Prop := fnExactFiresAtRow.holds Try.pinned (OpenSpec.ofChange fnExactFiresAtWrong)

/-- 'laws.FnExactFirstOf': WHATEVER THE INPUT: true; the input reads as it did. -/
def fnExactFirstOfSpec : ChangeSpec := { name := "fnExactFirstOf", fn := fun _ => fun
  | [d1, d2] => { results := [.lit (.bool true)], args := [d1, d2] }
  | _ => none }
def fnExactFirstOfRow : OpenClaim := { program := "ytkpeihdlmjdejaa", sum := "fa0a99987bb9d26b839025c5932492bd3b6d887e3a985df354431fdd266f5fca", func := "loop.example/g00692/laws.FnExactFirstOf", spec := "fnExactFirstOf", unfollowed := true, recurses := true, apart := false }
def FnExactFirstOfSaid : Prop := fnExactFirstOfRow.holds Try.pinned (OpenSpec.ofChange fnExactFirstOfSpec)

/-- ITS FALSE NEIGHBOUR: 'it returns false'. Refute it at one input. -/
def fnExactFirstOfWrong : ChangeSpec := { name := "fnExactFirstOf", fn := fun _ => fun
  | [d1, d2] => { results := [.lit (.bool false)], args := [d1, d2] }
  | _ => none }
def FnExactFirstOfWrongFalsely : Prop := fnExactFirstOfRow.holds Try.pinned (OpenSpec.ofChange fnExactFirstOfWrong)

/-- 'laws.FnExactFindAll': WHATEVER THE INPUT: true; the input reads as it did. -/
def fnExactFindAllSpec : ChangeSpec := { name := "fnExactFindAll", fn := fun _ => fun
  | [d1, d2] => { results := [.lit (.bool true)], args := [d1, d2] }
  | _ => none }
def fnExactFindAllRow : OpenClaim := { program := "ytkpeihdlmjdejaa", sum := "fa0a99987bb9d26b839025c5932492bd3b6d887e3a985df354431fdd266f5fca", func := "loop.example/g00692/laws.FnExactFindAll", spec := "fnExactFindAll", unfollowed := true, recurses := true, apart := false }
def FnExactFindAllSaid : Prop := fnExactFindAllRow.holds Try.pinned (OpenSpec.ofChange fnExactFindAllSpec)

/-- ITS FALSE NEIGHBOUR: 'it returns false'. Refute it at one input. -/
def fnExactFindAllWrong : ChangeSpec := { name := "fnExactFindAll", fn := fun _ => fun
  | [d1, d2] => { results := [.lit (.bool false)], args := [d1, d2] }
  | _ => none }
def FnExactFindAllWrongFalsely : Prop := fnExactFindAllRow.holds Try.pinned (OpenSpec.ofChange fnExactFindAllWrong)

/-- 'laws.FnFirst': WHATEVER THE INPUT: true; the input reads as it did. -/
def fnFirstSpec : ChangeSpec := { name := "fnFirst", fn := fun _ => fun
  | [d1, d2] => { results := [.lit (.bool true)], args := [d1, d2] }
  | _ => none }
def fnFirstRow : OpenClaim := { program := "ytkpeihdlmjdejaa", sum := "fa0a99987bb9d26b839025c5932492bd3b6d887e3a985df354431fdd266f5fca", func := "loop.example/g00692/laws.FnFirst", spec := "fnFirst", unfollowed := true, recurses := true, apart := false }
def FnFirstSaid : Prop := fnFirstRow.holds Try.pinned (OpenSpec.ofChange fnFirstSpec)

/-- ITS FALSE NEIGHBOUR: 'it returns false'. Refute it at one input. -/
def fnFirstWrong : ChangeSpec := { name := "fnFirst", fn := fun _ => fun
  | [d1, d2] => { results := [.lit (.bool false)], args := [d1, d2] }
  | _ => none }
def FnFirstWrongFalsely : Prop := fnFirstRow.holds Try.pinned (OpenSpec.ofChange fnFirstWrong)

/-- 'laws.FnFound': WHATEVER THE INPUT: true; the input reads as it did. -/
def fnFoundSpec : ChangeSpec := { name := "fnFound", fn := fun _ => fun
  | [d1, d2] => { results := [.lit (.bool true)], args := [d1, d2] }
  | _ => none }
def fnFoundRow : OpenClaim := { program := "ytkpeihdlmjdejaa", sum := "fa0a99987bb9d26b839025c5932492bd3b6d887e3a985df354431fdd266f5fca", func := "loop.example/g00692/laws.FnFound", spec := "fnFound", unfollowed := true, recurses := true, apart := false }
def FnFoundSaid : Prop := fnFoundRow.holds Try.pinned (OpenSpec.ofChange fnFoundSpec)

/-- ITS FALSE NEIGHBOUR: 'it returns false'. Refute it at one input. -/
def fnFoundWrong : ChangeSpec := { name := "fnFound", fn := fun _ => fun
  | [d1, d2] => { results := [.lit (.bool false)], args := [d1, d2] }
  | _ => none }
def FnFoundWrongFalsely : Prop := fnFoundRow.holds Try.pinned (OpenSpec.ofChange fnFoundWrong)

/-- 'laws.FnExactGoodProg': WHATEVER THE INPUT: true; the input reads as it did. -/
def fnExactGoodProgSpec : ChangeSpec := { name := "fnExactGoodProg", fn := fun _ => fun
  | [d] => { results := [.lit (.bool true)], args := [d] }
  | _ => none }
def fnExactGoodProgRow : OpenClaim := { program := "ytkpeihdlmjdejaa", sum := "fa0a99987bb9d26b839025c5932492bd3b6d887e3a985df354431fdd266f5fca", func := "loop.example/g00692/laws.FnExactGoodProg", spec := "fnExactGoodProg", unfollowed := true, recurses := true, apart := false }
def FnExactGoodProgSaid : Prop := fnExactGoodProgRow.holds Try.pinned (OpenSpec.ofChange fnExactGoodProgSpec)

/-- ITS FALSE NEIGHBOUR: 'it returns false'. Refute it at one input. -/
def fnExactGoodProgWrong : ChangeSpec := { name := "fnExactGoodProg", fn := fun _ => fun
  | [d] => { results := [.lit (.bool false)], args := [d] }
  | _ => none }
def FnExactGoodProgWrongFalsely : Prop := fnExactGoodProgRow.holds Try.pinned (OpenSpec.ofChange fnExactGoodProgWrong)

/-- 'laws.FnExactRunNfa': WHATEVER THE INPUT: true; the input reads as it did. -/
def fnExactRunNfaSpec : ChangeSpec := { name := "fnExactRunNfa", fn := fun _ => fun
  | [d1, d2] => { results := [.lit (.bool true)], args := [d1, d2] }
  | _ => none }
def fnExactRunNfaRow : OpenClaim := { program := "ytkpeihdlmjdejaa", sum := "fa0a99987bb9d26b839025c5932492bd3b6d887e3a985df354431fdd266f5fca", func := "loop.example/g00692/laws.FnExactRunNfa", spec := "fnExactRunNfa", unfollowed := true, recurses := true, apart := false }
def FnExactRunNfaSaid : Prop := fnExactRunNfaRow.holds Try.pinned (OpenSpec.ofChange fnExactRunNfaSpec)

/-- ITS FALSE NEIGHBOUR: 'it returns false'. Refute it at one input. -/
def fnExactRunNfaWrong : ChangeSpec := { name := "fnExactRunNfa", fn := fun _ => fun
  | [d1, d2] => { results := [.lit (.bool false)], args := [d1, d2] }
  | _ => none }
def FnExactRunNfaWrongFalsely : Prop := fnExactRunNfaRow.holds Try.pinned (OpenSpec.ofChange fnExactRunNfaWrong)

/-- 'laws.FnExactNfaOf': WHATEVER THE INPUT: true; the input reads as it did. -/
def fnExactNfaOfSpec : ChangeSpec := { name := "fnExactNfaOf", fn := fun _ => fun
  | [d] => { results := [.lit (.bool true)], args := [d] }
  | _ => none }
def fnExactNfaOfRow : OpenClaim := { program := "ytkpeihdlmjdejaa", sum := "fa0a99987bb9d26b839025c5932492bd3b6d887e3a985df354431fdd266f5fca", func := "loop.example/g00692/laws.FnExactNfaOf", spec := "fnExactNfaOf", unfollowed := true, recurses := true, apart := false }
def FnExactNfaOfSaid : Prop := fnExactNfaOfRow.holds Try.pinned (OpenSpec.ofChange fnExactNfaOfSpec)

/-- ITS FALSE NEIGHBOUR: 'it returns false'. Refute it at one input. -/
def fnExactNfaOfWrong : ChangeSpec := { name := "fnExactNfaOf", fn := fun _ => fun
  | [d] => { results := [.lit (.bool false)], args := [d] }
  | _ => none }
def FnExactNfaOfWrongFalsely : Prop := fnExactNfaOfRow.holds Try.pinned (OpenSpec.ofChange fnExactNfaOfWrong)

/- THE SECOND FORM. 'bulk': how many values and letters a reading holds, each counted each time it is reached (what is shared counts as often as it is met; a slice's spare places count too). A statement '..UptoSaid' is the law's where the arguments, and the package variables that the reading takes, are together of bulk at most 1048576: NARROWER than '..Said'. Prove '..Said' where nothing that the law and all that it calls make is longer than what came in: it says more and counts as full. Else prove '..UptoSaid'. A law counts once. -/
mutual
def uptoBulk {H : Type} : DataW H → Nat
  | .lit (.string bytes) => bytes.length + 1
  | .lit _ => 1
  | .nil => 1
  | .ptr d => uptoBulk d + 1
  | .slice elems spare => uptoBulkAll elems + uptoBulkAll spare + 1
  | .agg parts => uptoBulkAll parts + 1
  | .iface _ d => uptoBulk d + 1
  | .map entries => uptoBulkEntries entries + 1
  | .held _ => 1
def uptoBulkAll {H : Type} : List (DataW H) → Nat
  | [] => 0
  | d :: r => uptoBulk d + uptoBulkAll r
def uptoBulkEntries {H : Type} : List (Lit × DataW H) → Nat
  | [] => 0
  | x :: r => uptoBulkEntry x + uptoBulkEntries r
def uptoBulkEntry {H : Type} : Lit × DataW H → Nat
  | (.string bytes, d) => bytes.length + uptoBulk d + 1
  | (_, d) => uptoBulk d + 1
 end
def uptoSmall : (H : Type) → List (DataW H) → Bool := fun _ ds => decide (uptoBulkAll ds ≤ 1048576)
def OpenSpec.upto (s : _root_.Go.ChangeSpec) : _root_.Go.OpenSpec := { _root_.Go.OpenSpec.ofChange s with cond := some uptoSmall }

/-- 'laws.FnExactFindIn', WHERE WHAT IT READS IS OF BULK AT MOST 1048576: true; the input reads as it did. -/
def fnExactFindInUptoRow : OpenClaim := { program := "ytkpeihdlmjdejaa", sum := "fa0a99987bb9d26b839025c5932492bd3b6d887e3a985df354431fdd266f5fca", func := "loop.example/g00692/laws.FnExactFindIn", spec := "fnExactFindIn", unfollowed := true, recurses := true, apart := false, narrowed := true }
def FnExactFindInUptoSaid : Prop := fnExactFindInUptoRow.holds Try.pinned (OpenSpec.upto fnExactFindInSpec)

/-- 'laws.FnExactLongestAt', WHERE WHAT IT READS IS OF BULK AT MOST 1048576: true; the input reads as it did. -/
def fnExactLongestAtUptoRow : OpenClaim := { program := "ytkpeihdlmjdejaa", sum := "fa0a99987bb9d26b839025c5932492bd3b6d887e3a985df354431fdd266f5fca", func := "loop.example/g00692/laws.FnExactLongestAt", spec := "fnExactLongestAt", unfollowed := true, recurses := true, apart := false, narrowed := true }
def FnExactLongestAtUptoSaid : Prop := fnExactLongestAtUptoRow.holds Try.pinned (OpenSpec.upto fnExactLongestAtSpec)

/-- 'laws.FnExactFiresAt', WHERE WHAT IT READS IS OF BULK AT MOST 1048576: true; the input reads as it did. -/
def fnExactFiresAtUptoRow : OpenClaim := { program := "ytkpeihdlmjdejaa", sum := "fa0a99987bb9d26b839025c5932492bd3b6d887e3a985df354431fdd266f5fca", func := "loop.example/g00692/laws.FnExactFiresAt", spec := "fnExactFiresAt", unfollowed := true, recurses := true, apart := false, narrowed := true }
def FnExactFiresAtUptoSaid : Prop := fnExactFiresAtUptoRow.holds Try.pinned (OpenSpec.upto fnExactFiresAtSpec)

/-- 'laws.FnExactFirstOf', WHERE WHAT IT READS IS OF BULK AT MOST 1048576: true; the input reads as it did. -/
def fnExactFirstOfUptoRow : OpenClaim := { program := "ytkpeihdlmjdejaa", sum := "fa0a99987bb9d26b839025c5932492bd3b6d887e3a985df354431fdd266f5fca", func := "loop.example/g00692/laws.FnExactFirstOf", spec := "fnExactFirstOf", unfollowed := true, recurses := true, apart := false, narrowed := true }
def FnExactFirstOfUptoSaid : Prop := fnExactFirstOfUptoRow.holds Try.pinned (OpenSpec.upto fnExactFirstOfSpec)

/-- 'laws.FnExactFindAll', WHERE WHAT IT READS IS OF BULK AT MOST 1048576: true; the input reads as it did. -/
def fnExactFindAllUptoRow : OpenClaim := { program := "ytkpeihdlmjdejaa", sum := "fa0a99987bb9d26b839025c5932492bd3b6d887e3a985df354431fdd266f5fca", func := "loop.example/g00692/laws.FnExactFindAll", spec := "fnExactFindAll", unfollowed := true, recurses := true, apart := false, narrowed := true }
def FnExactFindAllUptoSaid : Prop := fnExactFindAllUptoRow.holds Try.pinned (OpenSpec.upto fnExactFindAllSpec)

/-- 'laws.FnFirst', WHERE WHAT IT READS IS OF BULK AT MOST 1048576: true; the input reads as it did. -/
def fnFirstUptoRow : OpenClaim := { program := "ytkpeihdlmjdejaa", sum := "fa0a99987bb9d26b839025c5932492bd3b6d887e3a985df354431fdd266f5fca", func := "loop.example/g00692/laws.FnFirst", spec := "fnFirst", unfollowed := true, recurses := true, apart := false, narrowed := true }
def FnFirstUptoSaid : Prop := fnFirstUptoRow.holds Try.pinned (OpenSpec.upto fnFirstSpec)

/-- 'laws.FnFound', WHERE WHAT IT READS IS OF BULK AT MOST 1048576: true; the input reads as it did. -/
def fnFoundUptoRow : OpenClaim := { program := "ytkpeihdlmjdejaa", sum := "fa0a99987bb9d26b839025c5932492bd3b6d887e3a985df354431fdd266f5fca", func := "loop.example/g00692/laws.FnFound", spec := "fnFound", unfollowed := true, recurses := true, apart := false, narrowed := true }
def FnFoundUptoSaid : Prop := fnFoundUptoRow.holds Try.pinned (OpenSpec.upto fnFoundSpec)

/-- 'laws.FnExactGoodProg', WHERE WHAT IT READS IS OF BULK AT MOST 1048576: true; the input reads as it did. -/
def fnExactGoodProgUptoRow : OpenClaim := { program := "ytkpeihdlmjdejaa", sum := "fa0a99987bb9d26b839025c5932492bd3b6d887e3a985df354431fdd266f5fca", func := "loop.example/g00692/laws.FnExactGoodProg", spec := "fnExactGoodProg", unfollowed := true, recurses := true, apart := false, narrowed := true }
def FnExactGoodProgUptoSaid : Prop := fnExactGoodProgUptoRow.holds Try.pinned (OpenSpec.upto fnExactGoodProgSpec)

/-- 'laws.FnExactRunNfa', WHERE WHAT IT READS IS OF BULK AT MOST 1048576: true; the input reads as it did. -/
def fnExactRunNfaUptoRow : OpenClaim := { program := "ytkpeihdlmjdejaa", sum := "fa0a99987bb9d26b839025c5932492bd3b6d887e3a985df354431fdd266f5fca", func := "loop.example/g00692/laws.FnExactRunNfa", spec := "fnExactRunNfa", unfollowed := true, recurses := true, apart := false, narrowed := true }
def FnExactRunNfaUptoSaid : Prop := fnExactRunNfaUptoRow.holds Try.pinned (OpenSpec.upto fnExactRunNfaSpec)

/-- 'laws.FnExactNfaOf', WHERE WHAT IT READS IS OF BULK AT MOST 1048576: true; the input reads as it did. -/
def fnExactNfaOfUptoRow : OpenClaim := { program := "ytkpeihdlmjdejaa", sum := "fa0a99987bb9d26b839025c5932492bd3b6d887e3a985df354431fdd266f5fca", func := "loop.example/g00692/laws.FnExactNfaOf", spec := "fnExactNfaOf", unfollowed := true, recurses := true, apart := false, narrowed := true }
def FnExactNfaOfUptoSaid : Prop := fnExactNfaOfUptoRow.holds Try.pinned (OpenSpec.upto fnExactNfaOfSpec)

end Rows
end Go.Proofs.Ytkpeihdlmjdejaa
