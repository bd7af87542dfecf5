/-
  No cell of these rows narrows 'for every input' (looked for: loops, veiled, ifaces, maps, wideKeys, modest, calm, conditions, laid).
  DERIVED. THE GIVEN ROWS OF THIS SEAT. 3 by the template 'for every input the law returns true; each argument reads behind the call as it read before'; 0 by the template 'total and deterministic' (their statements: YtoipfgpggcnkmaaTotals.lean).
  GIVEN WITH THE SEED: the statements are not yours to turn. If you find one false, say at which input.
  Laid BY PROGRAM, IN A SANDBOX (cutbox-rows.mjs): the forced cells as the released guide's own fill.sh prints them over the translation 4b2319d362b8b54f… (all of the seat's roots in one cut). By AI agents, Wed Nov 11 2026. No macro, syntax, notation, axiom, sorry.
-/
import Derived.Test.YtoipfgpggcnkmaaChecked
import GoSem.Claim
import GoSem.ClaimJoined
import GoSem.ClaimMapViews
import Derived.JoinedTies
import Derived.KernelRfl
namespace Go.Proofs.Ytoipfgpggcnkmaa
/- THE CELL 'sum', in the pinned program and in every row, IS THE sha256 OF THE DUMP (.gsa) THAT YtoipfgpggcnkmaaProg.lean LOADS. Nothing in Lean hashes anything: it is a label: what it is worth is what the hold of that sum in a sandbox is worth. -/
noncomputable def Try.pinned : Pinned := { name := "ytoipfgpggcnkmaa", sum := "4b2319d362b8b54f70cfde4370c95a8e79c1cdbb094e2613084a1deba4fa4425", checked := Try.checked }
namespace Rows
def none {H : Type} : Left H := { results := [], args := [] }

/-- 'laws.FnExactRunAho': WHATEVER THE INPUT: true; the input reads as it did. -/
def fnExactRunAhoSpec : ChangeSpec := { name := "fnExactRunAho", fn := fun _ => fun
  | [d1, d2] => { results := [.lit (.bool true)], args := [d1, d2] }
  | _ => none }
def fnExactRunAhoRow : OpenClaim := { program := "ytoipfgpggcnkmaa", sum := "4b2319d362b8b54f70cfde4370c95a8e79c1cdbb094e2613084a1deba4fa4425", func := "loop.example/g00692/laws.FnExactRunAho", spec := "fnExactRunAho", unfollowed := true, recurses := true, plainKeys := false, apart := false }
def FnExactRunAhoSaid : Prop := fnExactRunAhoRow.holds Try.pinned (OpenSpec.ofChange fnExactRunAhoSpec)

/-- ITS FALSE NEIGHBOUR: 'it returns false'. Refute it at one input. -/
def fnExactRunAhoWrong : ChangeSpec := { name := "fnExactRunAho", fn := fun _ => fun
  | [d1, d2] => { results := [.lit (.bool false)], args := [d1, d2] }
  | _ => none }
def FnExactRunAhoWrongFalsely : Prop := fnExactRunAhoRow.holds Try.pinned (OpenSpec.ofChange fnExactRunAhoWrong)

/-- 'laws.FnExactShortIn': WHATEVER THE INPUT: true; the input reads as it did. -/
def fnExactShortInSpec : ChangeSpec := { name := "fnExactShortIn", fn := fun _ => fun
  | [d] => { results := [.lit (.bool true)], args := [d] }
  | _ => none }
def fnExactShortInRow : OpenClaim := { program := "ytoipfgpggcnkmaa", sum := "4b2319d362b8b54f70cfde4370c95a8e79c1cdbb094e2613084a1deba4fa4425", func := "loop.example/g00692/laws.FnExactShortIn", spec := "fnExactShortIn", unfollowed := true, recurses := true, plainKeys := false, apart := false }
def FnExactShortInSaid : Prop := fnExactShortInRow.holds Try.pinned (OpenSpec.ofChange fnExactShortInSpec)

/-- ITS FALSE NEIGHBOUR: 'it returns false'. Refute it at one input. -/
def fnExactShortInWrong : ChangeSpec := { name := "fnExactShortIn", fn := fun _ => fun
  | [d] => { results := [.lit (.bool false)], args := [d] }
  | _ => none }
def FnExactShortInWrongFalsely : Prop := fnExactShortInRow.holds Try.pinned (OpenSpec.ofChange fnExactShortInWrong)

/-- 'laws.FnExactBothDfa': WHATEVER THE INPUT: true; the input reads as it did. -/
def fnExactBothDfaSpec : ChangeSpec := { name := "fnExactBothDfa", fn := fun _ => fun
  | [d1, d2] => { results := [.lit (.bool true)], args := [d1, d2] }
  | _ => none }
def fnExactBothDfaRow : OpenClaim := { program := "ytoipfgpggcnkmaa", sum := "4b2319d362b8b54f70cfde4370c95a8e79c1cdbb094e2613084a1deba4fa4425", func := "loop.example/g00692/laws.FnExactBothDfa", spec := "fnExactBothDfa", unfollowed := true, recurses := true, plainKeys := false, apart := false }
def FnExactBothDfaSaid : Prop := fnExactBothDfaRow.holds Try.pinned (OpenSpec.ofChange fnExactBothDfaSpec)

/-- ITS FALSE NEIGHBOUR: 'it returns false'. Refute it at one input. -/
def fnExactBothDfaWrong : ChangeSpec := { name := "fnExactBothDfa", fn := fun _ => fun
  | [d1, d2] => { results := [.lit (.bool false)], args := [d1, d2] }
  | _ => none }
def FnExactBothDfaWrongFalsely : Prop := fnExactBothDfaRow.holds Try.pinned (OpenSpec.ofChange fnExactBothDfaWrong)

/- THE SECOND FORM. 'bulk': how many values and letters a reading holds, each counted each time it is reached (what is shared counts as often as it is met; a slice's spare places count too). A statement '..UptoSaid' is the law's where the arguments, and the package variables that the reading takes, are together of bulk at most 1048576: NARROWER than '..Said'. Prove '..Said' where nothing that the law and all that it calls make is longer than what came in: it says more and counts as full. Else prove '..UptoSaid'. A law counts once. -/
mutual
def uptoBulk {H : Type} : DataW H → Nat
  | .lit (.string bytes) => bytes.length + 1
  | .lit _ => 1
  | .nil => 1
  | .ptr d => uptoBulk d + 1
  | .slice elems spare => uptoBulkAll elems + uptoBulkAll spare + 1
  | .agg parts => uptoBulkAll parts + 1
  | .iface _ d => uptoBulk d + 1
  | .map entries => uptoBulkEntries entries + 1
  | .held _ => 1
def uptoBulkAll {H : Type} : List (DataW H) → Nat
  | [] => 0
  | d :: r => uptoBulk d + uptoBulkAll r
def uptoBulkEntries {H : Type} : List (Lit × DataW H) → Nat
  | [] => 0
  | x :: r => uptoBulkEntry x + uptoBulkEntries r
def uptoBulkEntry {H : Type} : Lit × DataW H → Nat
  | (.string bytes, d) => bytes.length + uptoBulk d + 1
  | (_, d) => uptoBulk d + 1
 end
def uptoSmall : (H : Type) → List (DataW H) → Bool := fun _ ds => decide (uptoBulkAll ds ≤ 1048576)
def OpenSpec.upto (s : _root_.Go.ChangeSpec) : _root_.Go.OpenSpec := { _root_.Go.OpenSpec.ofChange s with cond := some uptoSmall }

/-- 'laws.FnExactRunAho', WHERE WHAT IT READS IS OF BULK AT MOST 1048576: true; the input reads as it did. -/
def fnExactRunAhoUptoRow : OpenClaim := { program := "ytoipfgpggcnkmaa", sum := "4b2319d362b8b54f70cfde4370c95a8e79c1cdbb094e2613084a1deba4fa4425", func := "loop.example/g00692/laws.FnExactRunAho", spec := "fnExactRunAho", unfollowed := true, recurses := true, plainKeys := false, apart := false, narrowed := true }
def FnExactRunAhoUptoSaid : Prop := fnExactRunAhoUptoRow.holds Try.pinned (OpenSpec.upto fnExactRunAhoSpec)

/-- 'laws.FnExactShortIn', WHERE WHAT IT READS IS OF BULK AT MOST 1048576: true; the input reads as it did. -/
def fnExactShortInUptoRow : OpenClaim := { program := "ytoipfgpggcnkmaa", sum := "4b2319d362b8b54f70cfde4370c95a8e79c1cdbb094e2613084a1deba4fa4425", func := "loop.example/g00692/laws.FnExactShortIn", spec := "fnExactShortIn", unfollowed := true, recurses := true, plainKeys := false, apart := false, narrowed := true }
def FnExactShortInUptoSaid : Prop := fnExactShortInUptoRow.holds Try.pinned (OpenSpec.upto fnExactShortInSpec)

/-- 'laws.FnExactBothDfa', WHERE WHAT IT READS IS OF BULK AT MOST 1048576: true; the input reads as it did. -/
def fnExactBothDfaUptoRow : OpenClaim := { program := "ytoipfgpggcnkmaa", sum := "4b2319d362b8b54f70cfde4370c95a8e79c1cdbb094e2613084a1deba4fa4425", func := "loop.example/g00692/laws.FnExactBothDfa", spec := "fnExactBothDfa", unfollowed := true, recurses := true, plainKeys := false, apart := false, narrowed := true }
def FnExactBothDfaUptoSaid : Prop := fnExactBothDfaUptoRow.holds Try.pinned (OpenSpec.upto fnExactBothDfaSpec)

end Rows
end Go.Proofs.Ytoipfgpggcnkmaa
