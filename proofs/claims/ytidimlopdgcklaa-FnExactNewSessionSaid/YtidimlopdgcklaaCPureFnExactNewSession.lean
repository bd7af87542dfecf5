/- The program's NewSession answers as the reference's, for all numbers: no condition. -/
import Derived.Test.YtidimlopdgcklaaP0
import Derived.Test.YtidimlopdgcklaaC2
import Derived.Test.YtidimlopdgcklaaC3
import Derived.Test.YtidimlopdgcklaaC4
import Derived.Test.YtidimlopdgcklaaCStFnExactNewSession
import Derived.Test.YtidimlopdgcklaaCBuf
set_option linter.unusedVariables false
set_option linter.unusedSimpArgs false
namespace Go.Proofs.Ytidimlopdgcklaa.Pure
open Go.RowKit Go.Proofs.Ytidimlopdgcklaa.P Go.Proofs.YtidimlopdgcklaaW.PrintWords
abbrev NS := Int × Int × Int × ByteArray × Int × List Int × List Int × Int × Bool × Bool
def newR (en most : Int) : NS := bif inB en 1 5 && inB most 1 60 then (en, 0, 0, (⟨#[]⟩ : ByteArray), most, [], [], 0, false, true) else (0, 0, 0, (⟨#[]⟩ : ByteArray), 0, [], [], 0, false, false)
theorem goodNew (most : Int) : goodBufB most [] [] 0 = inB most 1 60 := by
  unfold goodBufB
  cases h : inB most 1 60
  · simp
  · unfold inB at h ⊢
    simp at h ⊢
    omega
theorem toList_empty : (⟨#[]⟩ : ByteArray).toList = [] := by rw [Go.ByteArray.toList_eq]
theorem goodDec0 (en : Int) : Ev (fun k => spec_GoodDecoder.f k en 0 0 (⟨#[]⟩ : ByteArray)) (inB en 1 5) := by
  have hw : wrap64 ((0 : Int) + 0) = 0 := w64 (by omega) (by omega)
  unfold spec_GoodDecoder.f
  have hc : spec_l2Code.f en = some (inB en 1 5) := by unfold spec_l2Code.f; rw [l1In_eq]; rfl
  refine Ev.bind0 hc ?_
  cases h1 : inB en 1 5
  · exact Ev.neg (by simp) (Ev.step (fun k => spec_GoodDecoder.j0.eq_2 ..) (Ev.pos rfl (Ev.now _)))
  have hj : Ev (fun k => spec_GoodDecoder.j0 k false en 0 0 (⟨#[]⟩ : ByteArray)) true := by
    refine Ev.step (fun k => spec_GoodDecoder.j0.eq_2 ..) (Ev.neg (by simp) ?_)
    by_cases h : en = 1
    · exact Ev.pos h (Ev.pos toList_empty (Ev.now _))
    · refine Ev.neg h ?_
      have hu : ∃ b, spec_l2Units.f en = some b := by unfold spec_l2Units.f; split <;> exact ⟨_, rfl⟩
      obtain ⟨b, hb⟩ := hu
      refine Ev.bind0 hb ?_
      cases b
      · exact Ev.neg (by simp) (Ev.some' (by rw [toList_empty]; rfl))
      · exact Ev.pos rfl (Ev.pos (by decide) (Ev.now _))
  refine Ev.pos rfl (Ev.bind0 (l1In_eq _ _ _) (Ev.pos (by decide) (Ev.bind0 (l1In_eq _ _ _) (Ev.pos (by decide) ?_))))
  by_cases h : en = 5
  · exact Ev.pos h hj
  · refine Ev.neg h ?_
    rw [hw]
    exact hj
theorem specNew (en most : Int) : Ev (fun k => spec_NewSession.f k en most) (newR en most) := by
  unfold spec_NewSession.f newR
  have hs : Ev (fun k => spec_GoodSession.f k en 0 0 (⟨#[]⟩ : ByteArray) most [] [] 0 false) (inB en 1 5 && inB most 1 60) := by
    unfold spec_GoodSession.f
    refine Ev.bind (goodDec0 en) ?_
    cases h1 : inB en 1 5
    · exact Ev.neg (by simp) (Ev.now _)
    refine Ev.pos rfl (Ev.bind (specGoodBuf most [] [] 0 (by simp) (by simp)) ?_)
    rw [goodNew]
    cases h2 : inB most 1 60
    · exact Ev.neg (by simp) (Ev.now _)
    · exact Ev.pos rfl (Ev.neg (by simp) (Ev.now _))
  refine Ev.bind hs ?_
  cases (inB en 1 5 && inB most 1 60)
  · exact Ev.neg (by simp) (Ev.now _)
  · exact Ev.pos rfl (Ev.now _)
theorem implNew (en most : Int) : impl_NewSession.f en most = some (newR en most) := by
  unfold impl_NewSession.f impl_NewDecoder.f impl_isCode.f newR
  rw [inRange_eq, inRange_eq]
  simp only [Option.bind_some]
  cases inB en 1 5 <;> cases inB most 1 60 <;> rfl
theorem eqSession_self (x : NS) (h1 : x.2.2.2.2.2.1.length ≤ 1000000000) (h2 : x.2.2.2.2.2.2.1.length ≤ 1000000000) : Ev (fun k => laws_eqSession.f k x.1 x.2.1 x.2.2.1 x.2.2.2.1 x.2.2.2.2.1 x.2.2.2.2.2.1 x.2.2.2.2.2.2.1 x.2.2.2.2.2.2.2.1 x.2.2.2.2.2.2.2.2.1 x.1 x.2.1 x.2.2.1 x.2.2.2.1 x.2.2.2.2.1 x.2.2.2.2.2.1 x.2.2.2.2.2.2.1 x.2.2.2.2.2.2.2.1 x.2.2.2.2.2.2.2.2.1) true := by
  unfold laws_eqSession.f
  have hd : ∀ (a b c : Int) (s : ByteArray), laws_eqDecoder.f a b c s a b c s = some true := fun a b c s => by
    unfold laws_eqDecoder.f
    rw [if_pos rfl, if_pos rfl, if_pos rfl, if_pos rfl]
  exact Ev.bind0 (hd _ _ _ _) (Ev.pos rfl (Ev.bind (eqBuf_self _ _ _ _ h1 h2) (Ev.pos rfl (Ev.neg (by simp) (Ev.now _)))))
theorem FnExactNewSession : FnExactNewSession_Pure := by
  intro en most _ _
  refine Ev.get (g := fun k => laws_FnExactNewSession.f k en most) ?_
  unfold laws_FnExactNewSession.f
  have hl1 : (newR en most).2.2.2.2.2.1 = [] := by unfold newR; cases (inB en 1 5 && inB most 1 60) <;> rfl
  have hl2 : (newR en most).2.2.2.2.2.2.1 = [] := by unfold newR; cases (inB en 1 5 && inB most 1 60) <;> rfl
  have sp := specNew en most
  have im := implNew en most
  generalize newR en most = x at *
  have e := eqSession_self x (by rw [hl1]; simp) (by rw [hl2]; simp)
  refine Ev.bind sp (Ev.bind0 im (Ev.bind e (Ev.pos rfl ?_)))
  have mk : Ev (fun k => laws_markSession.f k x.1 x.2.1 x.2.2.1 x.2.2.2.1 x.2.2.2.2.1 x.2.2.2.2.2.1 x.2.2.2.2.2.2.1 x.2.2.2.2.2.2.2.1 x.2.2.2.2.2.2.2.2.1 1) (1, [], []) := by
    rw [hl1, hl2]
    unfold laws_markSession.f laws_markBuf.f
    exact Ev.bind (Ev.bind (markIntS [] 1 (by omega) (by omega) (by simp)) (Ev.bind (markIntS [] _ (by simp) (by simp) (by simp)) (Ev.now _))) (Ev.now _)
  have hd : Ev (fun k => laws_heldSession.f k x.1 x.2.1 x.2.2.1 x.2.2.2.1 x.2.2.2.2.1 [] [] x.2.2.2.2.2.2.2.1 x.2.2.2.2.2.2.2.2.1 1) 1 := by
    unfold laws_heldSession.f laws_heldBuf.f
    have h0 := heldIntS 0 1 (by omega) (by omega) (by omega)
    exact Ev.bind (Ev.bind h0 (Ev.neg (by simp) (Ev.bind h0 (Ev.neg (by simp) (Ev.now _))))) (Ev.neg (by simp) (Ev.now _))
  refine Ev.step (fun k => laws_FnExactNewSession.j0.eq_2 ..) (Ev.neg (by simp) (Ev.bind mk (Ev.bind hd (Ev.neg (by omega) (Ev.pos rfl (Ev.bind0 im (Ev.bind e (Ev.pos rfl ?_))))))))
  exact Ev.step (fun k => laws_FnExactNewSession.j1.eq_2 ..) (Ev.neg (by simp) (Ev.bind hd (Ev.neg (by omega) (Ev.pos rfl (Ev.now true)))))
end Go.Proofs.Ytidimlopdgcklaa.Pure
