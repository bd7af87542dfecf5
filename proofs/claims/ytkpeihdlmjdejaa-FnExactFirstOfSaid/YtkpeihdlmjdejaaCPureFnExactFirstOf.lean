/- The program's FirstOf answers as the reference's, for all patterns and every list of runes: no condition. -/
import Derived.Test.YtkpeihdlmjdejaaCP0
import Derived.Test.YtkpeihdlmjdejaaC6
import Derived.Test.YtkpeihdlmjdejaaCStFnExactFirstOf
import Derived.Test.YtkpeihdlmjdejaaCSearchO
import Derived.Test.YtkpeihdlmjdejaaCReLawS
set_option linter.unusedVariables false
set_option linter.unusedSimpArgs false
namespace Go.Proofs.Ytkpeihdlmjdejaa.Pure
open Go.RowKit Go.Proofs.Ytkpeihdlmjdejaa.P Go.Proofs.YtkpeihdlmjdejaaW.PrintWords
theorem FnExactFirstOf : FnExactFirstOf_Pure := by
  intro ps l w1 w2
  refine Ev.get (g := fun k => laws_FnExactFirstOf.f k ps l) ?_
  unfold laws_FnExactFirstOf.f
  by_cases hs : (l.length : Int) > 1048576
  · exact Ev.pos hs (Ev.now true)
  refine Ev.neg hs ?_
  obtain ⟨r, hr, hc⟩ := szReSS_cases ps 1048576 (by omega) (by omega) (by omega) (fun x hx => ⟨by have := (w1.2 x hx).1; omega, fun y hy => by have := ((w1.2 x hx).2 y hy).2.1; omega⟩)
  refine Ev.bind hr ?_
  rcases hc with hc | ⟨h0, z1, z2⟩
  · exact Ev.pos hc (Ev.now _)
  have t1 := toReSS ps z1 z2
  have t2 := toIntS l (by omega)
  have hp : ∀ p ∈ ps.map (·.map reOf), SmallR p := fun p hp => by
    obtain ⟨y, hy, rfl⟩ := List.mem_map.1 hp
    exact smallR_of (z2 y hy).len (z2 y hy).sets
  have sp := specFirstOf (ps.map (·.map reOf)) l (by omega) hp
  have im := implFirstOf (ps.map (·.map reOf)) l hp
  have eh : ∀ x : Int × Int × Int × Bool, laws_eqHit.f x.1 x.2.1 x.2.2.1 x.1 x.2.1 x.2.2.1 = some true := fun x => by simp [laws_eqHit.f]
  refine Ev.neg (by omega) (Ev.bind t1 (Ev.bind t2 (Ev.bind sp (Ev.bind t1 (Ev.bind t2 (Ev.bind im (Ev.bind0 (eh _) (Ev.pos rfl ?_))))))))
  exact Ev.step (fun k => laws_FnExactFirstOf.j0.eq_2 ..) (Ev.neg (by simp) (Ev.bind t1 (Ev.bind (eqReSS_self _ (by simpa using z1) hp) (Ev.pos rfl (Ev.bind t2 (Ev.bind (eqIntS_self l (by omega)) (Ev.pos rfl (Ev.now _))))))))
end Go.Proofs.Ytkpeihdlmjdejaa.Pure
