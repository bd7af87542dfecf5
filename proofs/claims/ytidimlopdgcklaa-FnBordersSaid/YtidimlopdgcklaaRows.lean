/-
  No cell of these rows narrows 'for every input' (looked for: loops, veiled, ifaces, maps, wideKeys, modest, calm, conditions, laid).
  DERIVED. THE GIVEN ROWS OF THIS SEAT. 11 by the template 'for every input the law returns true; each argument reads behind the call as it read before'; 0 by the template 'total and deterministic' (their statements: YtidimlopdgcklaaTotals.lean).
  GIVEN WITH THE SEED: the statements are not yours to turn. If you find one false, say at which input.
  Laid BY PROGRAM, IN A SANDBOX (cutbox-rows.mjs): the forced cells as the released guide's own fill.sh prints them over the translation e45f6913fe6c144b… (all of the seat's roots in one cut). By AI agents, Wed Nov 11 2026. No macro, syntax, notation, axiom, sorry.
-/
import Derived.Test.YtidimlopdgcklaaChecked
import GoSem.Claim
import GoSem.ClaimJoined
import GoSem.ClaimMapViews
import Derived.JoinedTies
import Derived.KernelRfl
namespace Go.Proofs.Ytidimlopdgcklaa
/- THE CELL 'sum', in the pinned program and in every row, IS THE sha256 OF THE DUMP (.gsa) THAT YtidimlopdgcklaaProg.lean LOADS. Nothing in Lean hashes anything: it is a label: what it is worth is what the hold of that sum in a sandbox is worth. -/
noncomputable def Try.pinned : Pinned := { name := "ytidimlopdgcklaa", sum := "e45f6913fe6c144b057d0f07bfd5f80fffbf330365708d887e0193e298126dce", checked := Try.checked }
namespace Rows
def none {H : Type} : Left H := { results := [], args := [] }

/-- 'laws.FnExactRuneCount': WHATEVER THE INPUT: true; the input reads as it did. -/
def fnExactRuneCountSpec : ChangeSpec := { name := "fnExactRuneCount", fn := fun _ => fun
  | [d] => { results := [.lit (.bool true)], args := [d] }
  | _ => none }
def fnExactRuneCountRow : OpenClaim := { program := "ytidimlopdgcklaa", sum := "e45f6913fe6c144b057d0f07bfd5f80fffbf330365708d887e0193e298126dce", func := "loop.example/g00692/laws.FnExactRuneCount", spec := "fnExactRuneCount", apart := false }
def FnExactRuneCountSaid : Prop := fnExactRuneCountRow.holds Try.pinned (OpenSpec.ofChange fnExactRuneCountSpec)

/-- ITS FALSE NEIGHBOUR: 'it returns false'. Refute it at one input. -/
def fnExactRuneCountWrong : ChangeSpec := { name := "fnExactRuneCount", fn := fun _ => fun
  | [d] => { results := [.lit (.bool false)], args := [d] }
  | _ => none }
def FnExactRuneCountWrongFalsely : Prop := fnExactRuneCountRow.holds Try.pinned (OpenSpec.ofChange fnExactRuneCountWrong)

/-- 'laws.FnExactGoodPeer': WHATEVER THE INPUT: true; the input reads as it did. -/
def fnExactGoodPeerSpec : ChangeSpec := { name := "fnExactGoodPeer", fn := fun _ => fun
  | [d] => { results := [.lit (.bool true)], args := [d] }
  | _ => none }
def fnExactGoodPeerRow : OpenClaim := { program := "ytidimlopdgcklaa", sum := "e45f6913fe6c144b057d0f07bfd5f80fffbf330365708d887e0193e298126dce", func := "loop.example/g00692/laws.FnExactGoodPeer", spec := "fnExactGoodPeer", apart := false }
def FnExactGoodPeerSaid : Prop := fnExactGoodPeerRow.holds Try.pinned (OpenSpec.ofChange fnExactGoodPeerSpec)

/-- ITS FALSE NEIGHBOUR: 'it returns false'. Refute it at one input. -/
def fnExactGoodPeerWrong : ChangeSpec := { name := "fnExactGoodPeer", fn := fun _ => fun
  | [d] => { results := [.lit (.bool false)], args := [d] }
  | _ => none }
def FnExactGoodPeerWrongFalsely : Prop := fnExactGoodPeerRow.holds Try.pinned (OpenSpec.ofChange fnExactGoodPeerWrong)

/-- 'laws.FnExactLeastPeriod': WHATEVER THE INPUT: true; the input reads as it did. -/
def fnExactLeastPeriodSpec : ChangeSpec := { name := "fnExactLeastPeriod", fn := fun _ => fun
  | [d] => { results := [.lit (.bool true)], args := [d] }
  | _ => none }
def fnExactLeastPeriodRow : OpenClaim := { program := "ytidimlopdgcklaa", sum := "e45f6913fe6c144b057d0f07bfd5f80fffbf330365708d887e0193e298126dce", func := "loop.example/g00692/laws.FnExactLeastPeriod", spec := "fnExactLeastPeriod", unfollowed := true, recurses := true, apart := false }
def FnExactLeastPeriodSaid : Prop := fnExactLeastPeriodRow.holds Try.pinned (OpenSpec.ofChange fnExactLeastPeriodSpec)

/-- ITS FALSE NEIGHBOUR: 'it returns false'. Refute it at one input. -/
def fnExactLeastPeriodWrong : ChangeSpec := { name := "fnExactLeastPeriod", fn := fun _ => fun
  | [d] => { results := [.lit (.bool false)], args := [d] }
  | _ => none }
def FnExactLeastPeriodWrongFalsely : Prop := fnExactLeastPeriodRow.holds Try.pinned (OpenSpec.ofChange fnExactLeastPeriodWrong)

/-- 'laws.FnExactGoodBuf': WHATEVER THE INPUT: true; the input reads as it did. -/
def fnExactGoodBufSpec : ChangeSpec := { name := "fnExactGoodBuf", fn := fun _ => fun
  | [d] => { results := [.lit (.bool true)], args := [d] }
  | _ => none }
def fnExactGoodBufRow : OpenClaim := { program := "ytidimlopdgcklaa", sum := "e45f6913fe6c144b057d0f07bfd5f80fffbf330365708d887e0193e298126dce", func := "loop.example/g00692/laws.FnExactGoodBuf", spec := "fnExactGoodBuf", unfollowed := true, recurses := true, apart := false }
def FnExactGoodBufSaid : Prop := fnExactGoodBufRow.holds Try.pinned (OpenSpec.ofChange fnExactGoodBufSpec)

/-- ITS FALSE NEIGHBOUR: 'it returns false'. Refute it at one input. -/
def fnExactGoodBufWrong : ChangeSpec := { name := "fnExactGoodBuf", fn := fun _ => fun
  | [d] => { results := [.lit (.bool false)], args := [d] }
  | _ => none }
def FnExactGoodBufWrongFalsely : Prop := fnExactGoodBufRow.holds Try.pinned (OpenSpec.ofChange fnExactGoodBufWrong)

/-- 'laws.FnExactPlacesOf': WHATEVER THE INPUT: true; the input reads as it did. -/
def fnExactPlacesOfSpec : ChangeSpec := { name := "fnExactPlacesOf", fn := fun _ => fun
  | [d1, d2] => { results := [.lit (.bool true)], args := [d1, d2] }
  | _ => none }
def fnExactPlacesOfRow : OpenClaim := { program := "ytidimlopdgcklaa", sum := "e45f6913fe6c144b057d0f07bfd5f80fffbf330365708d887e0193e298126dce", func := "loop.example/g00692/laws.FnExactPlacesOf", spec := "fnExactPlacesOf", unfollowed := true, recurses := true, apart := false }
def FnExactPlacesOfSaid : Prop := fnExactPlacesOfRow.holds Try.pinned (OpenSpec.ofChange fnExactPlacesOfSpec)

/-- ITS FALSE NEIGHBOUR: 'it returns false'. Refute it at one input. -/
def fnExactPlacesOfWrong : ChangeSpec := { name := "fnExactPlacesOf", fn := fun _ => fun
  | [d1, d2] => { results := [.lit (.bool false)], args := [d1, d2] }
  | _ => none }
def FnExactPlacesOfWrongFalsely : Prop := fnExactPlacesOfRow.holds Try.pinned (OpenSpec.ofChange fnExactPlacesOfWrong)

/-- 'laws.FnExactBordersOf': WHATEVER THE INPUT: true; the input reads as it did. -/
def fnExactBordersOfSpec : ChangeSpec := { name := "fnExactBordersOf", fn := fun _ => fun
  | [d] => { results := [.lit (.bool true)], args := [d] }
  | _ => none }
def fnExactBordersOfRow : OpenClaim := { program := "ytidimlopdgcklaa", sum := "e45f6913fe6c144b057d0f07bfd5f80fffbf330365708d887e0193e298126dce", func := "loop.example/g00692/laws.FnExactBordersOf", spec := "fnExactBordersOf", unfollowed := true, recurses := true, apart := false }
def FnExactBordersOfSaid : Prop := fnExactBordersOfRow.holds Try.pinned (OpenSpec.ofChange fnExactBordersOfSpec)

/-- ITS FALSE NEIGHBOUR: 'it returns false'. Refute it at one input. -/
def fnExactBordersOfWrong : ChangeSpec := { name := "fnExactBordersOf", fn := fun _ => fun
  | [d] => { results := [.lit (.bool false)], args := [d] }
  | _ => none }
def FnExactBordersOfWrongFalsely : Prop := fnExactBordersOfRow.holds Try.pinned (OpenSpec.ofChange fnExactBordersOfWrong)

/-- 'laws.FnExactByteOf': WHATEVER THE INPUT: true; the input reads as it did. -/
def fnExactByteOfSpec : ChangeSpec := { name := "fnExactByteOf", fn := fun _ => fun
  | [d1, d2] => { results := [.lit (.bool true)], args := [d1, d2] }
  | _ => none }
def fnExactByteOfRow : OpenClaim := { program := "ytidimlopdgcklaa", sum := "e45f6913fe6c144b057d0f07bfd5f80fffbf330365708d887e0193e298126dce", func := "loop.example/g00692/laws.FnExactByteOf", spec := "fnExactByteOf", unfollowed := true, recurses := true, apart := false }
def FnExactByteOfSaid : Prop := fnExactByteOfRow.holds Try.pinned (OpenSpec.ofChange fnExactByteOfSpec)

/-- ITS FALSE NEIGHBOUR: 'it returns false'. Refute it at one input. -/
def fnExactByteOfWrong : ChangeSpec := { name := "fnExactByteOf", fn := fun _ => fun
  | [d1, d2] => { results := [.lit (.bool false)], args := [d1, d2] }
  | _ => none }
def FnExactByteOfWrongFalsely : Prop := fnExactByteOfRow.holds Try.pinned (OpenSpec.ofChange fnExactByteOfWrong)

/-- 'laws.FnExactGoodAho': WHATEVER THE INPUT: true; the input reads as it did. -/
def fnExactGoodAhoSpec : ChangeSpec := { name := "fnExactGoodAho", fn := fun _ => fun
  | [d] => { results := [.lit (.bool true)], args := [d] }
  | _ => none }
def fnExactGoodAhoRow : OpenClaim := { program := "ytidimlopdgcklaa", sum := "e45f6913fe6c144b057d0f07bfd5f80fffbf330365708d887e0193e298126dce", func := "loop.example/g00692/laws.FnExactGoodAho", spec := "fnExactGoodAho", apart := false }
def FnExactGoodAhoSaid : Prop := fnExactGoodAhoRow.holds Try.pinned (OpenSpec.ofChange fnExactGoodAhoSpec)

/-- ITS FALSE NEIGHBOUR: 'it returns false'. Refute it at one input. -/
def fnExactGoodAhoWrong : ChangeSpec := { name := "fnExactGoodAho", fn := fun _ => fun
  | [d] => { results := [.lit (.bool false)], args := [d] }
  | _ => none }
def FnExactGoodAhoWrongFalsely : Prop := fnExactGoodAhoRow.holds Try.pinned (OpenSpec.ofChange fnExactGoodAhoWrong)

/-- 'laws.FnBorders': WHATEVER THE INPUT: true; the input reads as it did. -/
def fnBordersSpec : ChangeSpec := { name := "fnBorders", fn := fun _ => fun
  | [d1, d2] => { results := [.lit (.bool true)], args := [d1, d2] }
  | _ => none }
def fnBordersRow : OpenClaim := { program := "ytidimlopdgcklaa", sum := "e45f6913fe6c144b057d0f07bfd5f80fffbf330365708d887e0193e298126dce", func := "loop.example/g00692/laws.FnBorders", spec := "fnBorders", unfollowed := true, recurses := true, apart := false }
def FnBordersSaid : Prop := fnBordersRow.holds Try.pinned (OpenSpec.ofChange fnBordersSpec)

/-- ITS FALSE NEIGHBOUR: 'it returns false'. Refute it at one input. -/
def fnBordersWrong : ChangeSpec := { name := "fnBorders", fn := fun _ => fun
  | [d1, d2] => { results := [.lit (.bool false)], args := [d1, d2] }
  | _ => none }
def FnBordersWrongFalsely : Prop := fnBordersRow.holds Try.pinned (OpenSpec.ofChange fnBordersWrong)

/-- 'laws.FnExactStepAho': WHATEVER THE INPUT: true; the input reads as it did. -/
def fnExactStepAhoSpec : ChangeSpec := { name := "fnExactStepAho", fn := fun _ => fun
  | [d1, d2, d3] => { results := [.lit (.bool true)], args := [d1, d2, d3] }
  | _ => none }
def fnExactStepAhoRow : OpenClaim := { program := "ytidimlopdgcklaa", sum := "e45f6913fe6c144b057d0f07bfd5f80fffbf330365708d887e0193e298126dce", func := "loop.example/g00692/laws.FnExactStepAho", spec := "fnExactStepAho", recurses := true, apart := false }
def FnExactStepAhoSaid : Prop := fnExactStepAhoRow.holds Try.pinned (OpenSpec.ofChange fnExactStepAhoSpec)

/-- ITS FALSE NEIGHBOUR: 'it returns false'. Refute it at one input. -/
def fnExactStepAhoWrong : ChangeSpec := { name := "fnExactStepAho", fn := fun _ => fun
  | [d1, d2, d3] => { results := [.lit (.bool false)], args := [d1, d2, d3] }
  | _ => none }
def FnExactStepAhoWrongFalsely : Prop := fnExactStepAhoRow.holds Try.pinned (OpenSpec.ofChange fnExactStepAhoWrong)

/-- 'laws.FnExactNewSession': WHATEVER THE INPUT: true; the input reads as it did. -/
def fnExactNewSessionSpec : ChangeSpec := { name := "fnExactNewSession", fn := fun _ => fun
  | [d1, d2] => { results := [.lit (.bool true)], args := [d1, d2] }
  | _ => none }
def fnExactNewSessionRow : OpenClaim := { program := "ytidimlopdgcklaa", sum := "e45f6913fe6c144b057d0f07bfd5f80fffbf330365708d887e0193e298126dce", func := "loop.example/g00692/laws.FnExactNewSession", spec := "fnExactNewSession", apart := false }
def FnExactNewSessionSaid : Prop := fnExactNewSessionRow.holds Try.pinned (OpenSpec.ofChange fnExactNewSessionSpec)

/-- ITS FALSE NEIGHBOUR: 'it returns false'. Refute it at one input. -/
def fnExactNewSessionWrong : ChangeSpec := { name := "fnExactNewSession", fn := fun _ => fun
  | [d1, d2] => { results := [.lit (.bool false)], args := [d1, d2] }
  | _ => none }
def FnExactNewSessionWrongFalsely : Prop := fnExactNewSessionRow.holds Try.pinned (OpenSpec.ofChange fnExactNewSessionWrong)

/- THE SECOND FORM. 'bulk': how many values and letters a reading holds, each counted each time it is reached (what is shared counts as often as it is met; a slice's spare places count too). A statement '..UptoSaid' is the law's where the arguments, and the package variables that the reading takes, are together of bulk at most 1048576: NARROWER than '..Said'. Prove '..Said' where nothing that the law and all that it calls make is longer than what came in: it says more and counts as full. Else prove '..UptoSaid'. A law counts once. -/
mutual
def uptoBulk {H : Type} : DataW H → Nat
  | .lit (.string bytes) => bytes.length + 1
  | .lit _ => 1
  | .nil => 1
  | .ptr d => uptoBulk d + 1
  | .slice elems spare => uptoBulkAll elems + uptoBulkAll spare + 1
  | .agg parts => uptoBulkAll parts + 1
  | .iface _ d => uptoBulk d + 1
  | .map entries => uptoBulkEntries entries + 1
  | .held _ => 1
def uptoBulkAll {H : Type} : List (DataW H) → Nat
  | [] => 0
  | d :: r => uptoBulk d + uptoBulkAll r
def uptoBulkEntries {H : Type} : List (Lit × DataW H) → Nat
  | [] => 0
  | x :: r => uptoBulkEntry x + uptoBulkEntries r
def uptoBulkEntry {H : Type} : Lit × DataW H → Nat
  | (.string bytes, d) => bytes.length + uptoBulk d + 1
  | (_, d) => uptoBulk d + 1
 end
def uptoSmall : (H : Type) → List (DataW H) → Bool := fun _ ds => decide (uptoBulkAll ds ≤ 1048576)
def OpenSpec.upto (s : _root_.Go.ChangeSpec) : _root_.Go.OpenSpec := { _root_.Go.OpenSpec.ofChange s with cond := some uptoSmall }

/-- 'laws.FnExactRuneCount', WHERE WHAT IT READS IS OF BULK AT MOST 1048576: true; the input reads as it did. -/
def fnExactRuneCountUptoRow : OpenClaim := { program := "ytidimlopdgcklaa", sum := "e45f6913fe6c144b057d0f07bfd5f80fffbf330365708d887e0193e298126dce", func := "loop.example/g00692/laws.FnExactRuneCount", spec := "fnExactRuneCount", apart := false, narrowed := true }
def FnExactRuneCountUptoSaid : Prop := fnExactRuneCountUptoRow.holds Try.pinned (OpenSpec.upto fnExactRuneCountSpec)

/-- 'laws.FnExactGoodPeer', WHERE WHAT IT READS IS OF BULK AT MOST 1048576: true; the input reads as it did. -/
def fnExactGoodPeerUptoRow : OpenClaim := { program := "ytidimlopdgcklaa", sum := "e45f6913fe6c144b057d0f07bfd5f80fffbf330365708d887e0193e298126dce", func := "loop.example/g00692/laws.FnExactGoodPeer", spec := "fnExactGoodPeer", apart := false, narrowed := true }
def FnExactGoodPeerUptoSaid : Prop := fnExactGoodPeerUptoRow.holds Try.pinned (OpenSpec.upto fnExactGoodPeerSpec)

/-- 'laws.FnExactLeastPeriod', WHERE WHAT IT READS IS OF BULK AT MOST 1048576: true; the input reads as it did. -/
def fnExactLeastPeriodUptoRow : OpenClaim := { program := "ytidimlopdgcklaa", sum := "e45f6913fe6c144b057d0f07bfd5f80fffbf330365708d887e0193e298126dce", func := "loop.example/g00692/laws.FnExactLeastPeriod", spec := "fnExactLeastPeriod", unfollowed := true, recurses := true, apart := false, narrowed := true }
def FnExactLeastPeriodUptoSaid : Prop := fnExactLeastPeriodUptoRow.holds Try.pinned (OpenSpec.upto fnExactLeastPeriodSpec)

/-- 'laws.FnExactGoodBuf', WHERE WHAT IT READS IS OF BULK AT MOST 1048576: true; the input reads as it did. -/
def fnExactGoodBufUptoRow : OpenClaim := { program := "ytidimlopdgcklaa", sum := "e45f6913fe6c144b057d0f07bfd5f80fffbf330365708d887e0193e298126dce", func := "loop.example/g00692/laws.FnExactGoodBuf", spec := "fnExactGoodBuf", unfollowed := true, recurses := true, apart := false, narrowed := true }
def FnExactGoodBufUptoSaid : Prop := fnExactGoodBufUptoRow.holds Try.pinned (OpenSpec.upto fnExactGoodBufSpec)

/-- 'laws.FnExactPlacesOf', WHERE WHAT IT READS IS OF BULK AT MOST 1048576: true; the input reads as it did. -/
def fnExactPlacesOfUptoRow : OpenClaim := { program := "ytidimlopdgcklaa", sum := "e45f6913fe6c144b057d0f07bfd5f80fffbf330365708d887e0193e298126dce", func := "loop.example/g00692/laws.FnExactPlacesOf", spec := "fnExactPlacesOf", unfollowed := true, recurses := true, apart := false, narrowed := true }
def FnExactPlacesOfUptoSaid : Prop := fnExactPlacesOfUptoRow.holds Try.pinned (OpenSpec.upto fnExactPlacesOfSpec)

/-- 'laws.FnExactBordersOf', WHERE WHAT IT READS IS OF BULK AT MOST 1048576: true; the input reads as it did. -/
def fnExactBordersOfUptoRow : OpenClaim := { program := "ytidimlopdgcklaa", sum := "e45f6913fe6c144b057d0f07bfd5f80fffbf330365708d887e0193e298126dce", func := "loop.example/g00692/laws.FnExactBordersOf", spec := "fnExactBordersOf", unfollowed := true, recurses := true, apart := false, narrowed := true }
def FnExactBordersOfUptoSaid : Prop := fnExactBordersOfUptoRow.holds Try.pinned (OpenSpec.upto fnExactBordersOfSpec)

/-- 'laws.FnExactByteOf', WHERE WHAT IT READS IS OF BULK AT MOST 1048576: true; the input reads as it did. -/
def fnExactByteOfUptoRow : OpenClaim := { program := "ytidimlopdgcklaa", sum := "e45f6913fe6c144b057d0f07bfd5f80fffbf330365708d887e0193e298126dce", func := "loop.example/g00692/laws.FnExactByteOf", spec := "fnExactByteOf", unfollowed := true, recurses := true, apart := false, narrowed := true }
def FnExactByteOfUptoSaid : Prop := fnExactByteOfUptoRow.holds Try.pinned (OpenSpec.upto fnExactByteOfSpec)

/-- 'laws.FnExactGoodAho', WHERE WHAT IT READS IS OF BULK AT MOST 1048576: true; the input reads as it did. -/
def fnExactGoodAhoUptoRow : OpenClaim := { program := "ytidimlopdgcklaa", sum := "e45f6913fe6c144b057d0f07bfd5f80fffbf330365708d887e0193e298126dce", func := "loop.example/g00692/laws.FnExactGoodAho", spec := "fnExactGoodAho", apart := false, narrowed := true }
def FnExactGoodAhoUptoSaid : Prop := fnExactGoodAhoUptoRow.holds Try.pinned (OpenSpec.upto fnExactGoodAhoSpec)

/-- 'laws.FnBorders', WHERE WHAT IT READS IS OF BULK AT MOST 1048576: true; the input reads as it did. -/
def fnBordersUptoRow : OpenClaim := { program := "ytidimlopdgcklaa", sum := "e45f6913fe6c144b057d0f07bfd5f80fffbf330365708d887e0193e298126dce", func := "loop.example/g00692/laws.FnBorders", spec := "fnBorders", unfollowed := true, recurses := true, apart := false, narrowed := true }
def FnBordersUptoSaid : Prop := fnBordersUptoRow.holds Try.pinned (OpenSpec.upto fnBordersSpec)

/-- 'laws.FnExactStepAho', WHERE WHAT IT READS IS OF BULK AT MOST 1048576: true; the input reads as it did. -/
def fnExactStepAhoUptoRow : OpenClaim := { program := "ytidimlopdgcklaa", sum := "e45f6913fe6c144b057d0f07bfd5f80fffbf330365708d887e0193e298126dce", func := "loop.example/g00692/laws.FnExactStepAho", spec := "fnExactStepAho", recurses := true, apart := false, narrowed := true }
def FnExactStepAhoUptoSaid : Prop := fnExactStepAhoUptoRow.holds Try.pinned (OpenSpec.upto fnExactStepAhoSpec)

/-- 'laws.FnExactNewSession', WHERE WHAT IT READS IS OF BULK AT MOST 1048576: true; the input reads as it did. -/
def fnExactNewSessionUptoRow : OpenClaim := { program := "ytidimlopdgcklaa", sum := "e45f6913fe6c144b057d0f07bfd5f80fffbf330365708d887e0193e298126dce", func := "loop.example/g00692/laws.FnExactNewSession", spec := "fnExactNewSession", apart := false, narrowed := true }
def FnExactNewSessionUptoSaid : Prop := fnExactNewSessionUptoRow.holds Try.pinned (OpenSpec.upto fnExactNewSessionSpec)

end Rows
end Go.Proofs.Ytidimlopdgcklaa
