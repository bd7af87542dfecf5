/- Plain laws of short lists of runes. -/
import Derived.Test.YtoipfgpggcnkmaaCP0
import Derived.Test.YtoipfgpggcnkmaaC1
import Derived.Test.YtoipfgpggcnkmaaCRunes1
set_option linter.unusedVariables false
set_option linter.unusedSimpArgs false
namespace Go.Proofs.Ytoipfgpggcnkmaa.Pure
open Go.RowKit Go.Proofs.Ytoipfgpggcnkmaa.P Go.Proofs.YtoipfgpggcnkmaaW.PrintWords
theorem l8List (l : List Int) (hs : l.length ≤ 1000000000000) : Ev (fun k => spec_l8List.f k l) (decide ((l.length : Int) ≤ 120) && l.all runeB) := by
 unfold spec_l8List.f
 refine Ev.bind (l1AllRunes l hs) ?_
 by_cases h : (l.all runeB && decide (l.length ≤ 1000)) = true
 ·refine Ev.pos h (Ev.some' ?_)
  rw [Bool.and_eq_true] at h
  rw [h.1, Bool.and_true]
 ·refine Ev.neg h (Ev.some' ?_)
  simp only [Bool.not_eq_true] at h
  by_cases h2 : (l.length : Int) ≤ 120
  ·have h3 : l.length ≤ 1000 := by omega
   simp [h3] at h
   simp [h2]
   exact h
  ·simp [h2]
end Go.Proofs.Ytoipfgpggcnkmaa.Pure
