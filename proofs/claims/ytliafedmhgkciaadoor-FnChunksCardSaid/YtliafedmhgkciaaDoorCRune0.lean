/- Plain laws of numbers between bounds, and of runes. -/
import Derived.Test.YtliafedmhgkciaaDoorCP0
import Derived.Test.YtliafedmhgkciaaDoorC0
import Derived.Test.YtliafedmhgkciaaDoorCBase0
set_option linter.unusedVariables false
set_option linter.unusedSimpArgs false
namespace Go.Proofs.YtliafedmhgkciaaDoor.Pure
open Go.RowKit Go.Proofs.YtliafedmhgkciaaDoor.P Go.Proofs.YtliafedmhgkciaaDoorW.PrintWords

def inB (n lo hi : Int) : Bool := decide (lo ≤ n) && decide (n ≤ hi)
theorem l1In_eq (a b c : Int) : spec_l1In.f a b c = some (inB a b c) := by
 unfold spec_l1In.f inB
 by_cases h : a ≥ b
 ·rw [if_pos h]
  simp [h]
 ·rw [if_neg h]
  have : ¬ b ≤ a := h
  simp [this]
def runeB (r : Int) : Bool := inB r 0 1114111 && !inB r 55296 57343
theorem specGoodRune_eq (r : Int) : spec_GoodRune.f r = some (runeB r) := by
 unfold spec_GoodRune.f runeB
 rw [l1In_eq, l1In_eq]
 simp only [Option.bind_some]
 cases inB r 0 1114111 <;> simp
end Go.Proofs.YtliafedmhgkciaaDoor.Pure
