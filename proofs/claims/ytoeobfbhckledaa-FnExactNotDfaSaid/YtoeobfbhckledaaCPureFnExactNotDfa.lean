/- The program's NotDfa answers as the reference's, for every machine: no condition. -/
import Derived.Test.YtoeobfbhckledaaCP0
import Derived.Test.YtoeobfbhckledaaC3
import Derived.Test.YtoeobfbhckledaaCStFnExactNotDfa
import Derived.Test.YtoeobfbhckledaaCNdMark
set_option linter.unusedVariables false
set_option linter.unusedSimpArgs false
namespace Go.Proofs.Ytoeobfbhckledaa.Pure
open Go.RowKit Go.Proofs.Ytoeobfbhckledaa.P Go.Proofs.YtoeobfbhckledaaW.PrintWords
theorem FnExactNotDfa : FnExactNotDfa_Pure := by
 intro C N F w1 w2 w3
 refine Ev.get (g := fun k => laws_FnExactNotDfa.f k C N F) ?_
 unfold laws_FnExactNotDfa.f
 obtain ⟨r, hr, hc⟩ := szDfa_cases C N F (by omega) (by omega) (by omega) (fun x hx => by have := (w2.2 x hx).1; omega)
 refine Ev.bind hr ?_
 rcases hc with hc | ⟨h0, hz⟩
 ·exact Ev.pos hc (Ev.now _)
 have t := toDfa C N F hz
 have z1 := hz.c
 have z2 := hz.n
 have hR : SmallD (notR C N F).1 (notR C N F).2.1 (notR C N F).2.2.1 := by
  unfold notR
  cases goodDfaB C N F
  ·exact ⟨by simp, by simp, by simp, by simp [sumLen]⟩
  ·exact ⟨hz.c, hz.n, by simpa using hz.f, hz.ns⟩
 have s := specNotDfa C N F (by omega) (by omega) (fun x hx => by have := hz.row x hx; omega)
 have p := implNotDfa C N F (by omega) (by omega)
 have e := eqDfa_self _ _ _ hR
 have m := markDfa _ _ _ hR
 have g := heldDfa _ _ _ hR
 refine Ev.neg (by omega) (Ev.bind t (Ev.bind s (Ev.bind t (Ev.bind p (Ev.bind e (Ev.pos rfl (Ev.pos rfl (Ev.bind t (Ev.bind (eqDfa_self C N F hz) (Ev.pos rfl (Ev.bind (markDfa C N F hz) (Ev.neg (by omega) ?_))))))))))))
 refine Ev.bind e (Ev.pos rfl (Ev.pos rfl (Ev.bind m (Ev.bind g (Ev.neg (by omega) (Ev.pos rfl ?_))))))
 exact Ev.bind t (Ev.bind p (Ev.bind e (Ev.pos rfl (Ev.pos rfl (Ev.bind g (Ev.neg (by omega) (Ev.pos rfl (Ev.now _))))))))
end Go.Proofs.Ytoeobfbhckledaa.Pure
