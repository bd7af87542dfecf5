/- Plain laws: the borders, as the program and the reference tell them. -/
import Derived.Test.YtidimlopdgcklaaP18
import Derived.Test.YtidimlopdgcklaaBorders
set_option linter.unusedVariables false
set_option linter.unusedSimpArgs false
namespace Go.Proofs.Ytidimlopdgcklaa.Pure
open Go.RowKit Go.Proofs.Ytidimlopdgcklaa.P Go.Proofs.YtidimlopdgcklaaW.PrintWords
def bordersR (l : List Int) : List Int × Bool := bif (decide ((l.length : Int) ≤ 120) && l.all runeB) then (bordersB l, true) else ([], false)
theorem bordersR_length (l : List Int) : (bordersR l).1.length ≤ l.length := by
  unfold bordersR
  cases (decide ((l.length : Int) ≤ 120) && l.all runeB)
  · simp
  · simp [bordersB_length]
theorem specBordersOf (l : List Int) (hs : l.length ≤ 1000000000) : Ev (fun k => spec_BordersOf.f k l) (bordersR l) := by
  unfold spec_BordersOf.f
  refine Ev.bind (l8List l (by omega)) ?_
  unfold bordersR
  have hb8 : spec_l8Borders.f l = some (bordersB l) := by unfold spec_l8Borders.f; rw [if_pos hs]
  cases (decide ((l.length : Int) ≤ 120) && l.all runeB)
  · exact Ev.neg (by simp) (Ev.now _)
  · exact Ev.pos rfl (Ev.bind0 hb8 (Ev.now _))
theorem implBordersOf (l : List Int) (hs : l.length ≤ 1000000000) : Ev (fun k => impl_BordersOf.f k l) (bordersR l) := by
  unfold impl_BordersOf.f
  refine Ev.bind (Ev.congr (fun k => areRunes l 120 k) (Ev.now _)) ?_
  unfold bordersR
  cases (decide ((l.length : Int) ≤ 120) && l.all runeB)
  · exact Ev.neg (by simp) (Ev.now _)
  · exact Ev.pos rfl (Ev.bind (bordersOf l hs) (Ev.now _))
end Go.Proofs.Ytidimlopdgcklaa.Pure
