/- Plain laws: the least period, as the program and the reference tell it. -/
import Derived.Test.YtidimlopdgcklaaP10
import Derived.Test.YtidimlopdgcklaaP9
import Derived.Test.YtidimlopdgcklaaBorders
set_option linter.unusedVariables false
set_option linter.unusedSimpArgs false
namespace Go.Proofs.Ytidimlopdgcklaa.Pure
open Go.RowKit Go.Proofs.Ytidimlopdgcklaa.P Go.Proofs.YtidimlopdgcklaaW.PrintWords
def periodOf (l : List Int) : Int × Bool := if l.length = 0 then (0, false) else if (decide ((l.length : Int) ≤ 120) && l.all runeB) = true then ((l.length : Int) - (bestB l (l.length - 1) (l.length - 1) : Int), true) else (0, false)
theorem period_end (l : List Int) (h0 : ¬ l.length = 0) (hs : l.length ≤ 1000000000) : rd (bordersB l) (wrap64 ((l.length : Int) - 1)) = (bestB l (l.length - 1) (l.length - 1) : Int) := by
  rw [w64 (by omega) (by omega), show (l.length : Int) - 1 = ((l.length - 1 : Nat) : Int) from by omega]
  exact bordersB_rd l (l.length - 1) (by omega)
theorem periodOf_zero {l : List Int} (h0 : l.length = 0) : periodOf l = (0, false) := if_pos h0
theorem periodOf_ok {l : List Int} (h0 : ¬ l.length = 0) (hb : (decide ((l.length : Int) ≤ 120) && l.all runeB) = true) : periodOf l = ((l.length : Int) - (bestB l (l.length - 1) (l.length - 1) : Int), true) := (if_neg h0).trans (if_pos hb)
theorem periodOf_bad {l : List Int} (h0 : ¬ l.length = 0) (hb : ¬ (decide ((l.length : Int) ≤ 120) && l.all runeB) = true) : periodOf l = (0, false) := (if_neg h0).trans (if_neg hb)
theorem spec_LeastPeriod_ev (l : List Int) (hs : l.length ≤ 1000000000) : Ev (fun k => spec_LeastPeriod.f k l) (periodOf l) := by
  unfold spec_LeastPeriod.f
  refine Ev.bind (l8List l (by omega)) ?_
  by_cases h0 : l.length = 0
  · rw [periodOf_zero h0]
    by_cases hb : (decide ((l.length : Int) ≤ 120) && l.all runeB) = true
    · exact Ev.pos hb (Ev.pos (by omega) (Ev.now _))
    · exact Ev.neg hb (Ev.now _)
  · by_cases hb : (decide ((l.length : Int) ≤ 120) && l.all runeB) = true
    · rw [periodOf_ok h0 hb]
      have hb8 : spec_l8Borders.f l = some (bordersB l) := by unfold spec_l8Borders.f; rw [if_pos hs]
      refine Ev.pos hb (Ev.neg (by omega) (Ev.bind0 hb8 ?_))
      have hle := bestB_le l (l.length - 1) (l.length - 1)
      refine Ev.pos (by rw [w64 (by omega) (by omega)]; omega) (Ev.pos (by rw [w64 (by omega) (by omega), bordersB_length]; omega) (Ev.some' ?_))
      rw [period_end l h0 hs, w64 (by omega) (by omega)]
    · rw [periodOf_bad h0 hb]
      exact Ev.neg hb (Ev.now _)
theorem impl_LeastPeriod_ev (l : List Int) (hs : l.length ≤ 1000000000) : Ev (fun k => impl_LeastPeriod.f k l) (periodOf l) := by
  unfold impl_LeastPeriod.f
  by_cases h0 : l.length = 0
  · rw [periodOf_zero h0]
    exact Ev.pos (by omega) (Ev.now _)
  · refine Ev.neg (by omega) (Ev.bind (Ev.congr (fun k => areRunes l 120 k) (Ev.now _)) ?_)
    by_cases hb : (decide ((l.length : Int) ≤ 120) && l.all runeB) = true
    · rw [periodOf_ok h0 hb]
      refine Ev.pos hb (Ev.bind (bordersOf l hs) ?_)
      have hle := bestB_le l (l.length - 1) (l.length - 1)
      refine Ev.pos (by rw [w64 (by omega) (by omega)]; omega) (Ev.pos (by rw [w64 (by omega) (by omega), bordersB_length]; omega) (Ev.some' ?_))
      rw [period_end l h0 hs, w64 (by omega) (by omega)]
    · rw [periodOf_bad h0 hb]
      exact Ev.neg hb (Ev.now _)
end Go.Proofs.Ytidimlopdgcklaa.Pure
