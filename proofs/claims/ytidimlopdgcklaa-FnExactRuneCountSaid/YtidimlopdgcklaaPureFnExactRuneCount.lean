/- The program's RuneCount answers as the reference's, for every text: no condition. -/
import Derived.Test.YtidimlopdgcklaaStFnExactRuneCount
import Derived.Test.YtidimlopdgcklaaUtf8x
set_option linter.unusedVariables false
set_option linter.unusedSimpArgs false
namespace Go.Proofs.Ytidimlopdgcklaa.Pure
open Go.RowKit Go.Proofs.Ytidimlopdgcklaa.P Go.Proofs.YtidimlopdgcklaaW.PrintWords
theorem FnExactRuneCount : FnExactRuneCount_Pure := by
  intro s hs
  refine Ev.get (g := fun k => laws_FnExactRuneCount.f k s) ?_
  unfold laws_FnExactRuneCount.f
  by_cases h1 : (s.size : Int) > 1048576
  · exact Ev.pos h1 (Ev.now _)
  refine Ev.neg h1 ?_
  unfold spec_RuneCount.f impl_RuneCount.f
  by_cases h2 : (s.size : Int) > 3000
  · refine Ev.bind (Ev.pos h2 (Ev.now _)) ?_
    rw [if_pos h2]
    exact Ev.bind0 rfl (Ev.pos rfl (Ev.neg (by simp) (Ev.now _)))
  · refine Ev.bind (Ev.neg h2 (Ev.bind ?_ (Ev.now _))) (a := ((Lib.runeCount s : Int), true)) ?_
    · unfold spec_l12Count.f
      refine Ev.bind (l1Runes s (by omega)) (Ev.some' ?_)
      rw [runesL_length]
    · rw [if_neg h2]
      unfold utf8_RuneCountInString.f
      rw [if_pos (by omega)]
      exact Ev.bind0 rfl (Ev.pos rfl (Ev.neg (by simp) (Ev.now _)))
end Go.Proofs.Ytidimlopdgcklaa.Pure
