/- The program's StepAho answers as the reference's, for every machine, state and rune: no condition. -/
import Derived.Test.YtidimlopdgcklaaCP0
import Derived.Test.YtidimlopdgcklaaC3
import Derived.Test.YtidimlopdgcklaaC4
import Derived.Test.YtidimlopdgcklaaCStFnExactStepAho
import Derived.Test.YtidimlopdgcklaaCAhoMark
set_option linter.unusedVariables false
set_option linter.unusedSimpArgs false
namespace Go.Proofs.Ytidimlopdgcklaa.Pure
open Go.RowKit Go.Proofs.Ytidimlopdgcklaa.P Go.Proofs.YtidimlopdgcklaaW.PrintWords
def stepB (P B F : List Int) (E : List (List Int)) (s r : Int) : Int × Bool :=
  if goodAhoB P B F E && (inB s 0 ((P.length : Int) - 1) && runeB r) then (stepA P B F r P.length s, true) else (0, false)
theorem specStepAho (P B F : List Int) (E : List (List Int)) (s r : Int) (h : SmallA P B F E) : Ev (fun k => spec_StepAho.f k P B F E s r) (stepB P B F E s r) := by
  unfold spec_StepAho.f stepB
  have hp := h.p
  refine Ev.bind (specGoodAho P B F E h.row) ?_
  cases c1 : goodAhoB P B F E
  · exact Ev.neg (by simp) (Ev.now _)
  refine Ev.pos rfl ?_
  rw [w64 (by omega) (by omega), Bool.true_and]
  refine Ev.bind0 (l1In_eq _ _ _) ?_
  cases c2 : inB s 0 ((P.length : Int) - 1)
  · exact Ev.neg (by simp) (Ev.now _)
  refine Ev.pos rfl (Ev.bind0 (specGoodRune_eq _) ?_)
  cases c3 : runeB r
  · exact Ev.neg (by simp) (Ev.now _)
  unfold inB at c2
  simp only [Bool.and_eq_true, decide_eq_true_eq] at c2
  have hs := specStep (goodA_of c1) r P.length s.toNat (by omega) (by omega)
  rw [Int.toNat_of_nonneg c2.1] at hs
  exact Ev.pos rfl (Ev.bind hs (Ev.now _))
theorem implStepAho (P B F : List Int) (E : List (List Int)) (s r : Int) (h : SmallA P B F E) : Ev (fun k => impl_StepAho.f k P B F E s r) (stepB P B F E s r) := by
  unfold impl_StepAho.f stepB
  have hp := h.p
  refine Ev.bind (implGoodAho P B F E h.row) ?_
  cases c1 : goodAhoB P B F E
  · exact Ev.neg (by simp) (Ev.now _)
  refine Ev.pos rfl ?_
  rw [Bool.true_and]
  refine Ev.bind0 (isPlace_eq _ _ (by omega) (by omega)) ?_
  cases c2 : inB s 0 ((P.length : Int) - 1)
  · exact Ev.neg (by simp) (Ev.now _)
  refine Ev.pos rfl (Ev.bind0 (implGoodRune_eq' _) ?_)
  cases c3 : runeB r
  · exact Ev.neg (by simp) (Ev.now _)
  unfold inB at c2
  simp only [Bool.and_eq_true, decide_eq_true_eq] at c2
  have hs := implStep (goodA_of c1) r P.length s.toNat (by omega) (by omega)
  rw [Int.toNat_of_nonneg c2.1] at hs
  exact Ev.pos rfl (Ev.bind hs (Ev.now _))
theorem FnExactStepAho : FnExactStepAho_Pure := by
  intro P B F E s r w1 w2 w3 w4 _ _
  refine Ev.get (g := fun k => laws_FnExactStepAho.f k P B F E s r) ?_
  unfold laws_FnExactStepAho.f
  obtain ⟨q, hr, hc⟩ := szAho_cases P B F E (by omega) (by omega) (by omega) (by omega) (fun x hx => by have := (w4.2 x hx).1; omega)
  refine Ev.bind hr ?_
  rcases hc with hc | ⟨h0, hz⟩
  · exact Ev.pos hc (Ev.now _)
  have t := toAho P B F E hz
  refine Ev.neg (by omega) (Ev.bind t (Ev.bind (specStepAho P B F E s r hz) (Ev.bind t (Ev.bind (implStepAho P B F E s r hz) (Ev.pos rfl ?_)))))
  exact Ev.step (fun k => laws_FnExactStepAho.j0.eq_2 ..) (Ev.neg (by simp) (Ev.bind t (Ev.bind (eqAho_self P B F E hz) (Ev.pos rfl (Ev.now _)))))
end Go.Proofs.Ytidimlopdgcklaa.Pure
