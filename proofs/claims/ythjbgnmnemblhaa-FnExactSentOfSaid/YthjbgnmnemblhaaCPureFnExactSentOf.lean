/- The program's SentOf answers as the reference's, for every talk: no condition. -/
import Derived.Test.YthjbgnmnemblhaaCP0
import Derived.Test.YthjbgnmnemblhaaC5
import Derived.Test.YthjbgnmnemblhaaCStFnExactSentOf
import Derived.Test.YthjbgnmnemblhaaCTalkLaw
set_option linter.unusedVariables false
set_option linter.unusedSimpArgs false
namespace Go.Proofs.Ythjbgnmnemblhaa.Pure
open Go.RowKit Go.Proofs.Ythjbgnmnemblhaa.P Go.Proofs.YthjbgnmnemblhaaW.PrintWords
theorem FnExactSentOf : FnExactSentOf_Pure := by
 intro c v e d0 d1 d2 d3 b0 r l b3 z w1 w2 w3 w4 w5 w6 w7 w8 w9 w10 w11
 refine Ev.get (g := fun k => laws_FnExactSentOf.f k c v e d0 d1 d2 d3 b0 r l b3 z) ?_
 unfold laws_FnExactSentOf.f
 obtain ⟨q, hq, hc⟩ := szTalk_cases c v e d0 d1 d2 d3 b0 r l b3 z (by omega) (by omega) (fun x hx => by have := (w3.2 x hx).2.2.2.2.1; omega) (by omega) (by omega) (by omega)
 refine Ev.bind hq ?_
 rcases hc with hc | ⟨h0, hz⟩
 ·exact Ev.pos hc (Ev.now _)
 have t := toTalk c v e d0 d1 d2 d3 b0 r l b3 z hz
 have s := specSent c v (e.map evOf) d0 d1 d2 d3 b0 r l b3 z hz
 have p := implSent c v (e.map evOf) d0 d1 d2 d3 b0 r l b3 z hz
 have hl := sentM_len (e.map evOf) [] (by simp)
 obtain ⟨mt, hm, hm0⟩ := markTalk c v (e.map evOf) d0 d1 d2 d3 b0 r l b3 z hz
 have q1 := eqIntS_self (sentM [] (e.map evOf)).1 (by omega)
 have m := markIntS (sentM [] (e.map evOf)).1 1 (by omega) (by omega) (by omega)
 have g := heldIntS (sentM [] (e.map evOf)).1.length 1 (by omega) (by omega) (by omega)
 refine Ev.neg (by omega) (Ev.bind t (Ev.bind s (Ev.bind t (Ev.bind p (Ev.bind q1 (Ev.pos rfl (Ev.pos rfl (Ev.bind t (Ev.bind (eqTalk_self c v (e.map evOf) d0 d1 d2 d3 b0 r l b3 z hz) (Ev.pos rfl (Ev.bind hm (Ev.neg (by omega) ?_))))))))))))
 refine Ev.bind q1 (Ev.pos rfl (Ev.pos rfl (Ev.bind m (Ev.bind g (Ev.neg (by omega) (Ev.pos rfl ?_))))))
 exact Ev.bind t (Ev.bind p (Ev.bind q1 (Ev.pos rfl (Ev.pos rfl (Ev.bind g (Ev.neg (by omega) (Ev.pos rfl (Ev.now _))))))))
end Go.Proofs.Ythjbgnmnemblhaa.Pure
