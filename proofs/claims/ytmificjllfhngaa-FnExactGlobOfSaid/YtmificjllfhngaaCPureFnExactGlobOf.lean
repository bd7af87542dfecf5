/- The program's GlobOf returns what the reference's returns, for all arguments. -/
import Derived.Test.YtmificjllfhngaaCP0
import Derived.Test.YtmificjllfhngaaC1
import Derived.Test.YtmificjllfhngaaCStFnExactGlobOf
import Derived.Test.YtmificjllfhngaaCGlobL
set_option linter.unusedVariables false
set_option linter.unusedSimpArgs false
namespace Go.Proofs.Ytmificjllfhngaa.Pure
open Go.RowKit Go.Proofs.Ytmificjllfhngaa.P Go.Proofs.YtmificjllfhngaaW.PrintWords
theorem FnExactGlobOf : FnExactGlobOf_Pure := by
 intro l w1
 refine Ev.get (g := fun k => laws_FnExactGlobOf.f k l) ?_
 unfold laws_FnExactGlobOf.f
 by_cases c0 : (l.length : Int) > 1048576
 ·exact Ev.pos c0 (Ev.now _)
 refine Ev.neg c0 ?_
 have tl := toIntS l (by omega)
 have s := specGlob l (by omega)
 have p := implGlob l
 have e := eqIntS_self l (by omega)
 refine Ev.bind tl (Ev.bind s (Ev.bind tl (Ev.bind p (Ev.pos rfl (Ev.pos rfl (Ev.bind tl (Ev.bind e (Ev.pos rfl (Ev.now _)))))))))
end Go.Proofs.Ytmificjllfhngaa.Pure
