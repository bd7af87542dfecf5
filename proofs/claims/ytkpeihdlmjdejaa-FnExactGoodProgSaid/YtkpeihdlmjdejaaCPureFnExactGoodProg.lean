/- The program's GoodProg answers as the reference's, for every list of instructions: no condition. -/
import Derived.Test.YtkpeihdlmjdejaaCP0
import Derived.Test.YtkpeihdlmjdejaaC7
import Derived.Test.YtkpeihdlmjdejaaCStFnExactGoodProg
import Derived.Test.YtkpeihdlmjdejaaCGpLaw
set_option linter.unusedVariables false
set_option linter.unusedSimpArgs false
namespace Go.Proofs.Ytkpeihdlmjdejaa.Pure
open Go.RowKit Go.Proofs.Ytkpeihdlmjdejaa.P Go.Proofs.YtkpeihdlmjdejaaW.PrintWords
theorem FnExactGoodProg : FnExactGoodProg_Pure := by
 intro p wf
 refine Ev.get (g := fun k => laws_FnExactGoodProg.f k p) ?_
 unfold laws_FnExactGoodProg.f
 have hw : ∀ x ∈ p, WdI x := fun x hx => by
  obtain ⟨_, _, _, _, h4, h5, h6⟩ := wf.2 x hx
  have a1 := h4.1
  have a2 := h5.1
  have a3 := h6.1
  refine ⟨by omega, by omega, fun c hc => ?_, by omega⟩
  obtain ⟨_, h7⟩ := h5.2 c hc
  have a4 := h7.1
  refine ⟨by omega, fun y hy => ?_⟩
  have a5 := (h7.2 y hy).2.1
  omega
 have w1 := wf.1
 obtain ⟨r, hr, hc⟩ := szInsS_cases p 1048576 (by omega) (by omega) (by omega) hw
 refine Ev.bind hr ?_
 rcases hc with hc | ⟨h0, _, z1, z2⟩
 ·exact Ev.pos hc (Ev.now _)
 have t := toInsS p z1 z2
 have hp := smallP_of z1 z2
 refine Ev.neg (by omega) (Ev.bind t (Ev.bind (specProg _ hp) (Ev.bind t (Ev.bind (implProg _ hp) (Ev.neg (by simp) (Ev.bind t (Ev.bind (eqInsS_self _ hp) (Ev.pos rfl (Ev.now _)))))))))
end Go.Proofs.Ytkpeihdlmjdejaa.Pure
