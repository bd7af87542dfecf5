/- The program's GoodBuf answers as the reference's, for every buffer: no condition. -/
import Derived.Test.YtidimlopdgcklaaStFnExactGoodBuf
import Derived.Test.YtidimlopdgcklaaBuf
set_option linter.unusedVariables false
set_option linter.unusedSimpArgs false
namespace Go.Proofs.Ytidimlopdgcklaa.Pure
open Go.RowKit Go.Proofs.Ytidimlopdgcklaa.P Go.Proofs.YtidimlopdgcklaaW.PrintWords
theorem FnExactGoodBuf : FnExactGoodBuf_Pure := by
  intro m r l g _ w1 w2 _
  refine Ev.get (g := fun k => laws_FnExactGoodBuf.f k m r l g) ?_
  unfold laws_FnExactGoodBuf.f
  rcases szBuf_cases m r l g (by omega) (by omega) 1048576 (by omega) (by omega) with h | ⟨h, hb⟩
  · exact Ev.bind0 h (Ev.pos (by omega) (Ev.now _))
  · have t := toBuf m r l g (by omega) (by omega)
    refine Ev.bind0 h (Ev.neg (by omega) (Ev.bind t (Ev.bind (specGoodBuf m r l g (by omega) (by omega)) (Ev.bind t (Ev.bind (Ev.congr (fun k => implGoodBuf m r l g k) (Ev.now _)) (Ev.neg (by simp) (Ev.bind t (Ev.bind (eqBuf_self m r l g (by omega) (by omega)) (Ev.pos rfl (Ev.now _))))))))))
end Go.Proofs.Ytidimlopdgcklaa.Pure
