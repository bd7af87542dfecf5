/- The program's GoodAho answers as the reference's, for every machine: no condition. -/
import Derived.Test.YtidimlopdgcklaaCP0
import Derived.Test.YtidimlopdgcklaaC3
import Derived.Test.YtidimlopdgcklaaCStFnExactGoodAho
import Derived.Test.YtidimlopdgcklaaCAhoMark
set_option linter.unusedVariables false
set_option linter.unusedSimpArgs false
namespace Go.Proofs.Ytidimlopdgcklaa.Pure
open Go.RowKit Go.Proofs.Ytidimlopdgcklaa.P Go.Proofs.YtidimlopdgcklaaW.PrintWords
theorem FnExactGoodAho : FnExactGoodAho_Pure := by
  intro P B F E w1 w2 w3 w4
  refine Ev.get (g := fun k => laws_FnExactGoodAho.f k P B F E) ?_
  unfold laws_FnExactGoodAho.f
  obtain ⟨r, hr, hc⟩ := szAho_cases P B F E (by omega) (by omega) (by omega) (by omega) (fun x hx => by have := (w4.2 x hx).1; omega)
  refine Ev.bind hr ?_
  rcases hc with hc | ⟨h0, hz⟩
  · exact Ev.pos hc (Ev.now _)
  have t := toAho P B F E hz
  refine Ev.neg (by omega) (Ev.bind t (Ev.bind (specGoodAho P B F E hz.row) (Ev.bind t (Ev.bind (implGoodAho P B F E hz.row) (Ev.neg (by simp) (Ev.bind t (Ev.bind (eqAho_self P B F E hz) (Ev.pos rfl (Ev.now _)))))))))
end Go.Proofs.Ytidimlopdgcklaa.Pure
