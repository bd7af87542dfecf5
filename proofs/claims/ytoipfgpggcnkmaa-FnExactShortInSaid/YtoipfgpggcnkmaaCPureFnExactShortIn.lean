/- The program's ShortIn answers as the reference's, for every machine: no condition. -/
import Derived.Test.YtoipfgpggcnkmaaCP0
import Derived.Test.YtoipfgpggcnkmaaC3
import Derived.Test.YtoipfgpggcnkmaaCStFnExactShortIn
import Derived.Test.YtoipfgpggcnkmaaCNdMark
import Derived.Test.YtoipfgpggcnkmaaCShortL
set_option linter.unusedVariables false
set_option linter.unusedSimpArgs false
namespace Go.Proofs.Ytoipfgpggcnkmaa.Pure
open Go.RowKit Go.Proofs.Ytoipfgpggcnkmaa.P Go.Proofs.YtoipfgpggcnkmaaW.PrintWords
theorem FnExactShortIn : FnExactShortIn_Pure := by
 intro C N F w1 w2 w3
 refine Ev.get (g := fun k => laws_FnExactShortIn.f k C N F) ?_
 unfold laws_FnExactShortIn.f
 obtain ⟨q, hr, hc⟩ := szDfa_cases C N F (by omega) (by omega) (by omega) (fun x hx => by have := (w2.2 x hx).1; omega)
 refine Ev.bind hr ?_
 rcases hc with hc | ⟨h0, hz⟩
 ·exact Ev.pos hc (Ev.now _)
 have t := toDfa C N F hz
 have z1 := hz.c
 have z2 := hz.n
 obtain ⟨r, r0, s, p⟩ := both_short C N F (by omega) (by omega) (fun x hx => by have := hz.row x hx; omega)
 have e := eqIntS_self r.1 (by omega)
 have m := markIntS r.1 1 (by omega) (by omega) (by omega)
 have g := heldIntS r.1.length 1 (by omega) (by omega) (by omega)
 refine Ev.neg (by omega) (Ev.bind t (Ev.bind s (Ev.bind t (Ev.bind p (Ev.bind e (Ev.pos rfl (Ev.pos rfl (Ev.bind t (Ev.bind (eqDfa_self C N F hz) (Ev.pos rfl (Ev.bind (markDfa C N F hz) (Ev.neg (by omega) ?_))))))))))))
 refine Ev.bind e (Ev.pos rfl (Ev.pos rfl (Ev.bind m (Ev.bind g (Ev.neg (by omega) (Ev.pos rfl ?_))))))
 exact Ev.bind t (Ev.bind p (Ev.bind e (Ev.pos rfl (Ev.pos rfl (Ev.bind g (Ev.neg (by omega) (Ev.pos rfl (Ev.now _))))))))
end Go.Proofs.Ytoipfgpggcnkmaa.Pure
