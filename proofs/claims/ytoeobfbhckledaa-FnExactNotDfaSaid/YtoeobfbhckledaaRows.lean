/-
  No cell of these rows narrows 'for every input' (looked for: loops, veiled, ifaces, maps, wideKeys, modest, calm, conditions, laid).
  DERIVED. THE GIVEN ROWS OF THIS SEAT. 8 by the template 'for every input the law returns true; each argument reads behind the call as it read before'; 0 by the template 'total and deterministic' (their statements: YtoeobfbhckledaaTotals.lean).
  GIVEN WITH THE SEED: the statements are not yours to turn. If you find one false, say at which input.
  Laid BY PROGRAM, IN A SANDBOX (cutbox-rows.mjs): the forced cells as the released guide's own fill.sh prints them over the translation 76b09e1ad81f9eaa… (all of the seat's roots in one cut). By AI agents, Wed Nov 11 2026. No macro, syntax, notation, axiom, sorry.
-/
import Derived.Test.YtoeobfbhckledaaChecked
import GoSem.Claim
import GoSem.ClaimJoined
import GoSem.ClaimMapViews
import Derived.JoinedTies
import Derived.KernelRfl
namespace Go.Proofs.Ytoeobfbhckledaa
/- THE CELL 'sum', in the pinned program and in every row, IS THE sha256 OF THE DUMP (.gsa) THAT YtoeobfbhckledaaProg.lean LOADS. Nothing in Lean hashes anything: it is a label: what it is worth is what the hold of that sum in a sandbox is worth. -/
noncomputable def Try.pinned : Pinned := { name := "ytoeobfbhckledaa", sum := "76b09e1ad81f9eaa083ac8b28625c0d57380987bd590227752ebd784cfe2b07e", checked := Try.checked }
namespace Rows
def none {H : Type} : Left H := { results := [], args := [] }

/-- 'laws.FnExactRunAho': WHATEVER THE INPUT: true; the input reads as it did. -/
def fnExactRunAhoSpec : ChangeSpec := { name := "fnExactRunAho", fn := fun _ => fun
  | [d1, d2] => { results := [.lit (.bool true)], args := [d1, d2] }
  | _ => none }
def fnExactRunAhoRow : OpenClaim := { program := "ytoeobfbhckledaa", sum := "76b09e1ad81f9eaa083ac8b28625c0d57380987bd590227752ebd784cfe2b07e", func := "loop.example/g00692/laws.FnExactRunAho", spec := "fnExactRunAho", unfollowed := true, recurses := true, plainKeys := false, apart := false }
def FnExactRunAhoSaid : Prop := fnExactRunAhoRow.holds Try.pinned (OpenSpec.ofChange fnExactRunAhoSpec)

/-- ITS FALSE NEIGHBOUR: 'it returns false'. Refute it at one input. -/
def fnExactRunAhoWrong : ChangeSpec := { name := "fnExactRunAho", fn := fun _ => fun
  | [d1, d2] => { results := [.lit (.bool false)], args := [d1, d2] }
  | _ => none }
def FnExactRunAhoWrongFalsely : Prop := fnExactRunAhoRow.holds Try.pinned (OpenSpec.ofChange fnExactRunAhoWrong)

/-- 'laws.FnExactAhoOf': WHATEVER THE INPUT: true; the input reads as it did. -/
def fnExactAhoOfSpec : ChangeSpec := { name := "fnExactAhoOf", fn := fun _ => fun
  | [d] => { results := [.lit (.bool true)], args := [d] }
  | _ => none }
def fnExactAhoOfRow : OpenClaim := { program := "ytoeobfbhckledaa", sum := "76b09e1ad81f9eaa083ac8b28625c0d57380987bd590227752ebd784cfe2b07e", func := "loop.example/g00692/laws.FnExactAhoOf", spec := "fnExactAhoOf", unfollowed := true, recurses := true, plainKeys := false, apart := false }
def FnExactAhoOfSaid : Prop := fnExactAhoOfRow.holds Try.pinned (OpenSpec.ofChange fnExactAhoOfSpec)

/-- ITS FALSE NEIGHBOUR: 'it returns false'. Refute it at one input. -/
def fnExactAhoOfWrong : ChangeSpec := { name := "fnExactAhoOf", fn := fun _ => fun
  | [d] => { results := [.lit (.bool false)], args := [d] }
  | _ => none }
def FnExactAhoOfWrongFalsely : Prop := fnExactAhoOfRow.holds Try.pinned (OpenSpec.ofChange fnExactAhoOfWrong)

/-- 'laws.FnAho': WHATEVER THE INPUT: true; the input reads as it did. -/
def fnAhoSpec : ChangeSpec := { name := "fnAho", fn := fun _ => fun
  | [d1, d2] => { results := [.lit (.bool true)], args := [d1, d2] }
  | _ => none }
def fnAhoRow : OpenClaim := { program := "ytoeobfbhckledaa", sum := "76b09e1ad81f9eaa083ac8b28625c0d57380987bd590227752ebd784cfe2b07e", func := "loop.example/g00692/laws.FnAho", spec := "fnAho", unfollowed := true, recurses := true, plainKeys := false, apart := false }
def FnAhoSaid : Prop := fnAhoRow.holds Try.pinned (OpenSpec.ofChange fnAhoSpec)

/-- ITS FALSE NEIGHBOUR: 'it returns false'. Refute it at one input. -/
def fnAhoWrong : ChangeSpec := { name := "fnAho", fn := fun _ => fun
  | [d1, d2] => { results := [.lit (.bool false)], args := [d1, d2] }
  | _ => none }
def FnAhoWrongFalsely : Prop := fnAhoRow.holds Try.pinned (OpenSpec.ofChange fnAhoWrong)

/-- 'laws.FnExactNotDfa': WHATEVER THE INPUT: true; the input reads as it did. -/
def fnExactNotDfaSpec : ChangeSpec := { name := "fnExactNotDfa", fn := fun _ => fun
  | [d] => { results := [.lit (.bool true)], args := [d] }
  | _ => none }
def fnExactNotDfaRow : OpenClaim := { program := "ytoeobfbhckledaa", sum := "76b09e1ad81f9eaa083ac8b28625c0d57380987bd590227752ebd784cfe2b07e", func := "loop.example/g00692/laws.FnExactNotDfa", spec := "fnExactNotDfa", unfollowed := true, recurses := true, plainKeys := false, apart := false }
def FnExactNotDfaSaid : Prop := fnExactNotDfaRow.holds Try.pinned (OpenSpec.ofChange fnExactNotDfaSpec)

/-- ITS FALSE NEIGHBOUR: 'it returns false'. Refute it at one input. -/
def fnExactNotDfaWrong : ChangeSpec := { name := "fnExactNotDfa", fn := fun _ => fun
  | [d] => { results := [.lit (.bool false)], args := [d] }
  | _ => none }
def FnExactNotDfaWrongFalsely : Prop := fnExactNotDfaRow.holds Try.pinned (OpenSpec.ofChange fnExactNotDfaWrong)

/-- 'laws.FnExactShortIn': WHATEVER THE INPUT: true; the input reads as it did. -/
def fnExactShortInSpec : ChangeSpec := { name := "fnExactShortIn", fn := fun _ => fun
  | [d] => { results := [.lit (.bool true)], args := [d] }
  | _ => none }
def fnExactShortInRow : OpenClaim := { program := "ytoeobfbhckledaa", sum := "76b09e1ad81f9eaa083ac8b28625c0d57380987bd590227752ebd784cfe2b07e", func := "loop.example/g00692/laws.FnExactShortIn", spec := "fnExactShortIn", unfollowed := true, recurses := true, plainKeys := false, apart := false }
def FnExactShortInSaid : Prop := fnExactShortInRow.holds Try.pinned (OpenSpec.ofChange fnExactShortInSpec)

/-- ITS FALSE NEIGHBOUR: 'it returns false'. Refute it at one input. -/
def fnExactShortInWrong : ChangeSpec := { name := "fnExactShortIn", fn := fun _ => fun
  | [d] => { results := [.lit (.bool false)], args := [d] }
  | _ => none }
def FnExactShortInWrongFalsely : Prop := fnExactShortInRow.holds Try.pinned (OpenSpec.ofChange fnExactShortInWrong)

/-- 'laws.FnExactBothDfa': WHATEVER THE INPUT: true; the input reads as it did. -/
def fnExactBothDfaSpec : ChangeSpec := { name := "fnExactBothDfa", fn := fun _ => fun
  | [d1, d2] => { results := [.lit (.bool true)], args := [d1, d2] }
  | _ => none }
def fnExactBothDfaRow : OpenClaim := { program := "ytoeobfbhckledaa", sum := "76b09e1ad81f9eaa083ac8b28625c0d57380987bd590227752ebd784cfe2b07e", func := "loop.example/g00692/laws.FnExactBothDfa", spec := "fnExactBothDfa", unfollowed := true, recurses := true, plainKeys := false, apart := false }
def FnExactBothDfaSaid : Prop := fnExactBothDfaRow.holds Try.pinned (OpenSpec.ofChange fnExactBothDfaSpec)

/-- ITS FALSE NEIGHBOUR: 'it returns false'. Refute it at one input. -/
def fnExactBothDfaWrong : ChangeSpec := { name := "fnExactBothDfa", fn := fun _ => fun
  | [d1, d2] => { results := [.lit (.bool false)], args := [d1, d2] }
  | _ => none }
def FnExactBothDfaWrongFalsely : Prop := fnExactBothDfaRow.holds Try.pinned (OpenSpec.ofChange fnExactBothDfaWrong)

/-- 'laws.FnBoth': WHATEVER THE INPUT: true; the input reads as it did. -/
def fnBothSpec : ChangeSpec := { name := "fnBoth", fn := fun _ => fun
  | [d1, d2] => { results := [.lit (.bool true)], args := [d1, d2] }
  | _ => none }
def fnBothRow : OpenClaim := { program := "ytoeobfbhckledaa", sum := "76b09e1ad81f9eaa083ac8b28625c0d57380987bd590227752ebd784cfe2b07e", func := "loop.example/g00692/laws.FnBoth", spec := "fnBoth", unfollowed := true, recurses := true, plainKeys := false, apart := false }
def FnBothSaid : Prop := fnBothRow.holds Try.pinned (OpenSpec.ofChange fnBothSpec)

/-- ITS FALSE NEIGHBOUR: 'it returns false'. Refute it at one input. -/
def fnBothWrong : ChangeSpec := { name := "fnBoth", fn := fun _ => fun
  | [d1, d2] => { results := [.lit (.bool false)], args := [d1, d2] }
  | _ => none }
def FnBothWrongFalsely : Prop := fnBothRow.holds Try.pinned (OpenSpec.ofChange fnBothWrong)

/-- 'laws.FnExactCutsOf': WHATEVER THE INPUT: true; the input reads as it did. -/
def fnExactCutsOfSpec : ChangeSpec := { name := "fnExactCutsOf", fn := fun _ => fun
  | [d] => { results := [.lit (.bool true)], args := [d] }
  | _ => none }
def fnExactCutsOfRow : OpenClaim := { program := "ytoeobfbhckledaa", sum := "76b09e1ad81f9eaa083ac8b28625c0d57380987bd590227752ebd784cfe2b07e", func := "loop.example/g00692/laws.FnExactCutsOf", spec := "fnExactCutsOf", unfollowed := true, recurses := true, plainKeys := false, apart := false }
def FnExactCutsOfSaid : Prop := fnExactCutsOfRow.holds Try.pinned (OpenSpec.ofChange fnExactCutsOfSpec)

/-- ITS FALSE NEIGHBOUR: 'it returns false'. Refute it at one input. -/
def fnExactCutsOfWrong : ChangeSpec := { name := "fnExactCutsOf", fn := fun _ => fun
  | [d] => { results := [.lit (.bool false)], args := [d] }
  | _ => none }
def FnExactCutsOfWrongFalsely : Prop := fnExactCutsOfRow.holds Try.pinned (OpenSpec.ofChange fnExactCutsOfWrong)

/- THE SECOND FORM. 'bulk': how many values and letters a reading holds, each counted each time it is reached (what is shared counts as often as it is met; a slice's spare places count too). A statement '..UptoSaid' is the law's where the arguments, and the package variables that the reading takes, are together of bulk at most 1048576: NARROWER than '..Said'. Prove '..Said' where nothing that the law and all that it calls make is longer than what came in: it says more and counts as full. Else prove '..UptoSaid'. A law counts once. -/
mutual
def uptoBulk {H : Type} : DataW H → Nat
  | .lit (.string bytes) => bytes.length + 1
  | .lit _ => 1
  | .nil => 1
  | .ptr d => uptoBulk d + 1
  | .slice elems spare => uptoBulkAll elems + uptoBulkAll spare + 1
  | .agg parts => uptoBulkAll parts + 1
  | .iface _ d => uptoBulk d + 1
  | .map entries => uptoBulkEntries entries + 1
  | .held _ => 1
def uptoBulkAll {H : Type} : List (DataW H) → Nat
  | [] => 0
  | d :: r => uptoBulk d + uptoBulkAll r
def uptoBulkEntries {H : Type} : List (Lit × DataW H) → Nat
  | [] => 0
  | x :: r => uptoBulkEntry x + uptoBulkEntries r
def uptoBulkEntry {H : Type} : Lit × DataW H → Nat
  | (.string bytes, d) => bytes.length + uptoBulk d + 1
  | (_, d) => uptoBulk d + 1
 end
def uptoSmall : (H : Type) → List (DataW H) → Bool := fun _ ds => decide (uptoBulkAll ds ≤ 1048576)
def OpenSpec.upto (s : _root_.Go.ChangeSpec) : _root_.Go.OpenSpec := { _root_.Go.OpenSpec.ofChange s with cond := some uptoSmall }

/-- 'laws.FnExactRunAho', WHERE WHAT IT READS IS OF BULK AT MOST 1048576: true; the input reads as it did. -/
def fnExactRunAhoUptoRow : OpenClaim := { program := "ytoeobfbhckledaa", sum := "76b09e1ad81f9eaa083ac8b28625c0d57380987bd590227752ebd784cfe2b07e", func := "loop.example/g00692/laws.FnExactRunAho", spec := "fnExactRunAho", unfollowed := true, recurses := true, plainKeys := false, apart := false, narrowed := true }
def FnExactRunAhoUptoSaid : Prop := fnExactRunAhoUptoRow.holds Try.pinned (OpenSpec.upto fnExactRunAhoSpec)

/-- 'laws.FnExactAhoOf', WHERE WHAT IT READS IS OF BULK AT MOST 1048576: true; the input reads as it did. -/
def fnExactAhoOfUptoRow : OpenClaim := { program := "ytoeobfbhckledaa", sum := "76b09e1ad81f9eaa083ac8b28625c0d57380987bd590227752ebd784cfe2b07e", func := "loop.example/g00692/laws.FnExactAhoOf", spec := "fnExactAhoOf", unfollowed := true, recurses := true, plainKeys := false, apart := false, narrowed := true }
def FnExactAhoOfUptoSaid : Prop := fnExactAhoOfUptoRow.holds Try.pinned (OpenSpec.upto fnExactAhoOfSpec)

/-- 'laws.FnAho', WHERE WHAT IT READS IS OF BULK AT MOST 1048576: true; the input reads as it did. -/
def fnAhoUptoRow : OpenClaim := { program := "ytoeobfbhckledaa", sum := "76b09e1ad81f9eaa083ac8b28625c0d57380987bd590227752ebd784cfe2b07e", func := "loop.example/g00692/laws.FnAho", spec := "fnAho", unfollowed := true, recurses := true, plainKeys := false, apart := false, narrowed := true }
def FnAhoUptoSaid : Prop := fnAhoUptoRow.holds Try.pinned (OpenSpec.upto fnAhoSpec)

/-- 'laws.FnExactNotDfa', WHERE WHAT IT READS IS OF BULK AT MOST 1048576: true; the input reads as it did. -/
def fnExactNotDfaUptoRow : OpenClaim := { program := "ytoeobfbhckledaa", sum := "76b09e1ad81f9eaa083ac8b28625c0d57380987bd590227752ebd784cfe2b07e", func := "loop.example/g00692/laws.FnExactNotDfa", spec := "fnExactNotDfa", unfollowed := true, recurses := true, plainKeys := false, apart := false, narrowed := true }
def FnExactNotDfaUptoSaid : Prop := fnExactNotDfaUptoRow.holds Try.pinned (OpenSpec.upto fnExactNotDfaSpec)

/-- 'laws.FnExactShortIn', WHERE WHAT IT READS IS OF BULK AT MOST 1048576: true; the input reads as it did. -/
def fnExactShortInUptoRow : OpenClaim := { program := "ytoeobfbhckledaa", sum := "76b09e1ad81f9eaa083ac8b28625c0d57380987bd590227752ebd784cfe2b07e", func := "loop.example/g00692/laws.FnExactShortIn", spec := "fnExactShortIn", unfollowed := true, recurses := true, plainKeys := false, apart := false, narrowed := true }
def FnExactShortInUptoSaid : Prop := fnExactShortInUptoRow.holds Try.pinned (OpenSpec.upto fnExactShortInSpec)

/-- 'laws.FnExactBothDfa', WHERE WHAT IT READS IS OF BULK AT MOST 1048576: true; the input reads as it did. -/
def fnExactBothDfaUptoRow : OpenClaim := { program := "ytoeobfbhckledaa", sum := "76b09e1ad81f9eaa083ac8b28625c0d57380987bd590227752ebd784cfe2b07e", func := "loop.example/g00692/laws.FnExactBothDfa", spec := "fnExactBothDfa", unfollowed := true, recurses := true, plainKeys := false, apart := false, narrowed := true }
def FnExactBothDfaUptoSaid : Prop := fnExactBothDfaUptoRow.holds Try.pinned (OpenSpec.upto fnExactBothDfaSpec)

/-- 'laws.FnBoth', WHERE WHAT IT READS IS OF BULK AT MOST 1048576: true; the input reads as it did. -/
def fnBothUptoRow : OpenClaim := { program := "ytoeobfbhckledaa", sum := "76b09e1ad81f9eaa083ac8b28625c0d57380987bd590227752ebd784cfe2b07e", func := "loop.example/g00692/laws.FnBoth", spec := "fnBoth", unfollowed := true, recurses := true, plainKeys := false, apart := false, narrowed := true }
def FnBothUptoSaid : Prop := fnBothUptoRow.holds Try.pinned (OpenSpec.upto fnBothSpec)

/-- 'laws.FnExactCutsOf', WHERE WHAT IT READS IS OF BULK AT MOST 1048576: true; the input reads as it did. -/
def fnExactCutsOfUptoRow : OpenClaim := { program := "ytoeobfbhckledaa", sum := "76b09e1ad81f9eaa083ac8b28625c0d57380987bd590227752ebd784cfe2b07e", func := "loop.example/g00692/laws.FnExactCutsOf", spec := "fnExactCutsOf", unfollowed := true, recurses := true, plainKeys := false, apart := false, narrowed := true }
def FnExactCutsOfUptoSaid : Prop := fnExactCutsOfUptoRow.holds Try.pinned (OpenSpec.upto fnExactCutsOfSpec)

end Rows
end Go.Proofs.Ytoeobfbhckledaa
