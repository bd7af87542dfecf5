/- The program's FindAll answers as the reference's, for every pattern and list of runes: no condition. -/
import Derived.Test.YtkpeihdlmjdejaaCP0
import Derived.Test.YtkpeihdlmjdejaaC6
import Derived.Test.YtkpeihdlmjdejaaCStFnExactFindAll
import Derived.Test.YtkpeihdlmjdejaaCSearchA
import Derived.Test.YtkpeihdlmjdejaaCReLaw
set_option linter.unusedVariables false
set_option linter.unusedSimpArgs false
namespace Go.Proofs.Ytkpeihdlmjdejaa.Pure
open Go.RowKit Go.Proofs.Ytkpeihdlmjdejaa.P Go.Proofs.YtkpeihdlmjdejaaW.PrintWords
theorem FnExactFindAll : FnExactFindAll_Pure := by
  intro p l w1 w2
  refine Ev.get (g := fun k => laws_FnExactFindAll.f k p l) ?_
  unfold laws_FnExactFindAll.f
  by_cases hs : (l.length : Int) > 1048576
  · exact Ev.pos hs (Ev.now true)
  refine Ev.neg hs ?_
  obtain ⟨r, hr, hc⟩ := szReS_cases p 1048576 (by omega) (by omega) (by omega) (fun x hx => by have := (w1.2 x hx).2.1; omega)
  refine Ev.bind hr ?_
  rcases hc with hc | ⟨h0, _, z1, z2⟩
  · exact Ev.pos hc (Ev.now _)
  have t1 := toReS p z1 z2
  have t2 := toIntS l (by omega)
  have hp := smallR_of z1 z2
  have sp := specFindAll _ hp l (by omega)
  have im := implFindAll _ hp l
  have hl := allR_length (p.map reOf) l
  have eh := eqHitS_self (allR (p.map reOf) l).1 (by omega)
  obtain ⟨m1, hm1, a0, a1⟩ := markReS (p.map reOf) 1 hp (by omega) (by omega)
  have hm2 := markIntS l m1 (by omega) (by omega) (by omega)
  have hm3 := markHitS (allR (p.map reOf) l).1 1 (by omega) (by omega) (by omega)
  have hh := heldHitS (allR (p.map reOf) l).1.length 1 (by omega) (by omega) (by omega)
  generalize allR (p.map reOf) l = R at sp im hl eh hm3 hh
  refine Ev.neg (by omega) (Ev.bind t1 (Ev.bind t2 (Ev.bind sp (Ev.bind t1 (Ev.bind t2 (Ev.bind im (Ev.bind eh (Ev.pos rfl ?_))))))))
  refine Ev.step (fun k => laws_FnExactFindAll.j0.eq_2 ..) (Ev.neg (by simp) (Ev.bind t1 (Ev.bind (eqReS_self _ hp) (Ev.pos rfl (Ev.bind t2 (Ev.bind (eqIntS_self l (by omega)) (Ev.pos rfl (Ev.bind hm1 (Ev.bind hm2 (Ev.neg (by simp only []; omega) (Ev.bind eh (Ev.pos rfl ?_))))))))))))
  refine Ev.step (fun k => laws_FnExactFindAll.j1.eq_2 ..) (Ev.neg (by simp) (Ev.bind hm3 (Ev.bind hh (Ev.neg (by omega) (Ev.pos rfl (Ev.bind t1 (Ev.bind t2 (Ev.bind im (Ev.bind eh (Ev.pos rfl ?_))))))))))
  exact Ev.step (fun k => laws_FnExactFindAll.j2.eq_2 ..) (Ev.neg (by simp) (Ev.bind hh (Ev.neg (by omega) (Ev.pos rfl (Ev.now _)))))
end Go.Proofs.Ytkpeihdlmjdejaa.Pure
