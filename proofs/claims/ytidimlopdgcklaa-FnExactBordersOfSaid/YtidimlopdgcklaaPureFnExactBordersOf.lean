/- The program's BordersOf answers as the reference's, for every list: no condition. -/
import Derived.Test.YtidimlopdgcklaaStFnExactBordersOf
import Derived.Test.YtidimlopdgcklaaP24
import Derived.Test.YtidimlopdgcklaaBorders
namespace Go.Proofs.Ytidimlopdgcklaa.Pure
open Go.RowKit Go.Proofs.Ytidimlopdgcklaa.P Go.Proofs.YtidimlopdgcklaaW.PrintWords
def bordersR (l : List Int) : List Int × Bool := bif (decide ((l.length : Int) ≤ 120) && l.all runeB) then (bordersB l, true) else ([], false)
theorem bordersR_length (l : List Int) : (bordersR l).1.length ≤ l.length := by
  unfold bordersR
  cases (decide ((l.length : Int) ≤ 120) && l.all runeB)
  · simp
  · simp [bordersB_length]
theorem specBordersOf (l : List Int) (hs : l.length ≤ 1000000000) : Ev (fun k => spec_BordersOf.f k l) (bordersR l) := by
  unfold spec_BordersOf.f
  refine Ev.bind (l8List l (by omega)) ?_
  unfold bordersR
  have hb8 : spec_l8Borders.f l = some (bordersB l) := by unfold spec_l8Borders.f; rw [if_pos hs]
  cases (decide ((l.length : Int) ≤ 120) && l.all runeB)
  · exact Ev.neg (by simp) (Ev.now _)
  · exact Ev.pos rfl (Ev.bind0 hb8 (Ev.now _))
theorem implBordersOf (l : List Int) (hs : l.length ≤ 1000000000) : Ev (fun k => impl_BordersOf.f k l) (bordersR l) := by
  unfold impl_BordersOf.f
  refine Ev.bind (Ev.congr (fun k => areRunes l 120 k) (Ev.now _)) ?_
  unfold bordersR
  cases (decide ((l.length : Int) ≤ 120) && l.all runeB)
  · exact Ev.neg (by simp) (Ev.now _)
  · exact Ev.pos rfl (Ev.bind (bordersOf l hs) (Ev.now _))
theorem FnExactBordersOf : FnExactBordersOf_Pure := by
  intro l _
  refine Ev.get (g := fun k => laws_FnExactBordersOf.f k l) ?_
  unfold laws_FnExactBordersOf.f
  by_cases hs : (l.length : Int) > 1048576
  · exact Ev.pos hs (Ev.now true)
  refine Ev.neg hs ?_
  have t1 := toIntS l (by omega)
  have hR := bordersR_length l
  have e1 := eqIntS_self l (by omega)
  have sp := specBordersOf l (by omega)
  have im := implBordersOf l (by omega)
  generalize bordersR l = R at hR sp im
  have eR := eqIntS_self R.1 (by omega)
  have mR := markIntS R.1 1 (by omega) (by omega) (by omega)
  have hR2 := heldIntS R.1.length 1 (by omega) (by omega) (by omega)
  have m1 := markIntS l 1 (by omega) (by omega) (by omega)
  refine Ev.bind t1 (Ev.bind sp (Ev.bind t1 (Ev.bind im (Ev.bind eR (Ev.pos rfl ?_)))))
  refine Ev.step (fun k => laws_FnExactBordersOf.j0.eq_2 ..) (Ev.neg (by simp) (Ev.bind t1 (Ev.bind e1 (Ev.pos rfl (Ev.bind m1 (Ev.neg (by simp only; omega) (Ev.bind eR (Ev.pos rfl ?_))))))))
  refine Ev.step (fun k => laws_FnExactBordersOf.j1.eq_2 ..) (Ev.neg (by simp) (Ev.bind mR (Ev.bind hR2 (Ev.neg (by omega) (Ev.pos rfl (Ev.bind t1 (Ev.bind im (Ev.bind eR (Ev.pos rfl ?_)))))))))
  exact Ev.step (fun k => laws_FnExactBordersOf.j2.eq_2 ..) (Ev.neg (by simp) (Ev.bind hR2 (Ev.neg (by omega) (Ev.pos rfl (Ev.now true)))))
end Go.Proofs.Ytidimlopdgcklaa.Pure
