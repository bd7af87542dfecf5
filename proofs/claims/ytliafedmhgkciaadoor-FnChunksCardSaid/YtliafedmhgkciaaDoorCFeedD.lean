/- Plain laws of decoders: what both answer to bytes that come. -/
import Derived.Test.YtliafedmhgkciaaDoorCP0
import Derived.Test.YtliafedmhgkciaaDoorC1
import Derived.Test.YtliafedmhgkciaaDoorC5
import Derived.Test.YtliafedmhgkciaaDoorCFeed
set_option linter.unusedVariables false
set_option linter.unusedSimpArgs false
namespace Go.Proofs.YtliafedmhgkciaaDoor.Pure
open Go.RowKit Go.Proofs.YtliafedmhgkciaaDoor.P Go.Proofs.YtliafedmhgkciaaDoorW.PrintWords
theorem good_facts {en sh lo : Int} {h : ByteArray} (hg : goodDecB en sh lo h = true) : 1 ≤ en ∧ en ≤ 5 ∧ (sh = 0 ∨ sh = 1) ∧ 0 ≤ lo ∧ lo ≤ 1000 ∧ (en ≠ 5 → sh = 0 ∧ lo = 0) ∧ heldB en h = true ∧ (en = 4 ∨ en = 5 → h.size = 0) := by
 unfold goodDecB inB at hg
 simp only [Bool.and_eq_true, Bool.or_eq_true, decide_eq_true_eq, Bool.not_eq_true', decide_eq_false_iff_not] at hg
 obtain ⟨⟨⟨⟨h1, h2⟩, h3⟩, h4⟩, h5⟩ := hg
 refine ⟨by omega, by omega, by omega, by omega, by omega, fun h => by omega, h5, fun c => ?_⟩
 unfold heldB at h5
 by_cases h0 : h.size = 0
 ·exact h0
 ·rw [if_neg h0, if_neg (by omega), if_neg (by omega)] at h5
  cases h5
theorem feed_good {en sh lo : Int} {h s : ByteArray} (hg : goodDecB en sh lo h = true) : goodDecB en (feedR en sh lo h s).1 (feedR en sh lo h s).2.1 (feedR en sh lo h s).2.2.1 = decide ((feedR en sh lo h s).2.1 ≤ 1000) := by
 obtain ⟨g1, g2, g3, g4, g5, g6, g7, g8⟩ := good_facts hg
 unfold feedR
 by_cases c : en = 4 ∨ en = 5
 ·rw [if_pos c]
  have hs := stepsL_shift en (bytesOf s) sh lo [] [] g3 g4
  have hheld : heldB en h = true := g7
  unfold goodDecB
  simp only []
  rw [hheld, Bool.and_true]
  have e1 : inB en 1 5 = true := by unfold inB; simp; omega
  have e2 : inB (stepsL en (bytesOf s) sh lo [] []).1 0 1 = true := by unfold inB; simp; omega
  rw [e1, e2, Bool.true_and, Bool.true_and]
  have e3 : inB (stepsL en (bytesOf s) sh lo [] []).2.1 0 1000 = decide ((stepsL en (bytesOf s) sh lo [] []).2.1 ≤ 1000) := by unfold inB; rw [decide_eq_true hs.2, Bool.true_and]
  rw [e3]
  by_cases c5 : en = 5
  ·rw [decide_eq_true c5, Bool.true_or, Bool.and_true]
  ·obtain ⟨s0, l0⟩ := g6 c5
   subst s0 l0
   have := stepsL_plain en c5 (bytesOf s) 0 [] []
   rw [this.1, this.2]
   simp
 ·rw [if_neg c]
  obtain ⟨s0, l0⟩ := g6 (fun h => c (.inr h))
  subst s0 l0
  have he := held_of_end en (feedM en (h ++ s).size (h ++ s) [] []).1 (by omega) (feedM_end en _ (h ++ s) [] [] (Nat.le_refl _))
  unfold goodDecB
  simp only []
  rw [he]
  have e1 : inB en 1 5 = true := by unfold inB; simp; omega
  rw [e1]
  have e2 : inB 0 0 1 = true := by decide
  have e3 : inB 0 0 1000 = true := by decide
  rw [e2, e3]
  simp
abbrev FD := Int × Int × Int × ByteArray × List Int × List Int × Bool
def fdR (en sh lo : Int) (h s : ByteArray) : FD :=
 if goodDecB en sh lo h = true ∧ s.size ≤ 1000 ∧ (feedR en sh lo h s).2.1 ≤ 1000 then (en, (feedR en sh lo h s).1, (feedR en sh lo h s).2.1, (feedR en sh lo h s).2.2.1, (feedR en sh lo h s).2.2.2.1, (feedR en sh lo h s).2.2.2.2, true)
 else (0, 0, 0, (⟨#[]⟩ : ByteArray), [], [], false)
theorem specFeedD (en sh lo : Int) (h s : ByteArray) (hh : h.size ≤ 10000000) : Ev (fun k => spec_FeedDecoder.f k en sh lo h s) (fdR en sh lo h s) := by
 unfold spec_FeedDecoder.f
 have jt : (goodDecB en sh lo h = true ∧ s.size ≤ 1000 → False) → Ev (fun k => spec_FeedDecoder.j0 k s true en sh lo h) (fdR en sh lo h s) := fun c =>
  Ev.step (fun k => spec_FeedDecoder.j0.eq_2 ..) (Ev.pos rfl (Ev.some' (by unfold fdR; rw [if_neg (fun x => c ⟨x.1, x.2.1⟩)])))
 refine Ev.bind (specGoodDec en sh lo h) ?_
 by_cases hg : goodDecB en sh lo h = true
 ·refine Ev.pos hg (Ev.bind0 (a := decide ((s.size : Int) ≤ 1000)) rfl ?_)
  by_cases hs : s.size ≤ 1000
  ·rw [decide_eq_true (by omega)]
   obtain ⟨g1, g2, g3, g4, g5, g6, g7, g8⟩ := good_facts hg
   refine Ev.step (fun k => spec_FeedDecoder.j0.eq_2 ..) (Ev.neg (by simp) (Ev.bind (specFeed en sh lo h s (by omega) hh g3 g4 (by omega)) (Ev.bind (specGoodDec _ _ _ _) ?_)))
   simp only []
   rw [feed_good hg]
   by_cases hl : (feedR en sh lo h s).2.1 ≤ 1000
   ·rw [decide_eq_true hl]
    exact Ev.pos rfl (Ev.some' (by unfold fdR; rw [if_pos ⟨hg, hs, hl⟩]))
   ·rw [decide_eq_false hl]
    exact Ev.neg (by simp) (Ev.some' (by unfold fdR; rw [if_neg (fun x => hl x.2.2)]))
  ·rw [decide_eq_false (by omega)]
   exact jt (fun x => hs x.2)
 ·exact Ev.neg hg (jt (fun x => hg x.1))
theorem implFeedD (en sh lo : Int) (h s : ByteArray) (hh : h.size ≤ 10000000) : Ev (fun k => impl_FeedDecoder.f k en sh lo h s) (fdR en sh lo h s) := by
 unfold impl_FeedDecoder.f
 have jt : (goodDecB en sh lo h = true ∧ s.size ≤ 1000 → False) → Ev (fun k => impl_FeedDecoder.j0 k s true en sh lo h) (fdR en sh lo h s) := fun c =>
  Ev.step (fun k => impl_FeedDecoder.j0.eq_2 ..) (Ev.pos rfl (Ev.some' (by unfold fdR; rw [if_neg (fun x => c ⟨x.1, x.2.1⟩)])))
 refine Ev.bind (implGoodDec en sh lo h) ?_
 by_cases hg : goodDecB en sh lo h = true
 ·refine Ev.pos hg ?_
  by_cases hs : s.size ≤ 1000
  ·rw [decide_eq_false (by omega)]
   obtain ⟨g1, g2, g3, g4, g5, g6, g7, g8⟩ := good_facts hg
   refine Ev.step (fun k => impl_FeedDecoder.j0.eq_2 ..) (Ev.neg (by simp) (Ev.bind (implFeed en sh lo h s (by omega) hh g4 (by omega) g8 (fun c => (g6 (fun x => c (.inr x))).2)) ?_))
   by_cases hl : (feedR en sh lo h s).2.1 ≤ 1000
   ·exact Ev.neg (by simp only []; omega) (Ev.some' (by unfold fdR; rw [if_pos ⟨hg, hs, hl⟩]))
   ·exact Ev.pos (by simp only []; omega) (Ev.some' (by unfold fdR; rw [if_neg (fun x => hl x.2.2)]))
  ·rw [decide_eq_true (by omega)]
   exact jt (fun x => hs x.2)
 ·exact Ev.neg hg (jt (fun x => hg x.1))
theorem feedR_len (en sh lo : Int) (h s : ByteArray) : (feedR en sh lo h s).2.2.2.1.length ≤ h.size + s.size ∧ (feedR en sh lo h s).2.2.2.2.length ≤ h.size + s.size := by
 unfold feedR
 split
 ·have := stepsL_len en (bytesOf s) sh lo [] []
  rw [bytesOf_length] at this
  simp only [List.length_nil] at this ⊢
  omega
 ·have := feedM_len en (h ++ s).size (h ++ s) [] []
  have e : (h ++ s).size = h.size + s.size := ByteArray.size_append ..
  simp only [List.length_nil] at this ⊢
  omega
theorem fdR_len (en sh lo : Int) (h s : ByteArray) : (fdR en sh lo h s).2.2.2.2.1.length ≤ h.size + s.size ∧ (fdR en sh lo h s).2.2.2.2.2.1.length ≤ h.size + s.size := by
 have := feedR_len en sh lo h s
 unfold fdR
 split
 ·exact this
 ·simp
end Go.Proofs.YtliafedmhgkciaaDoor.Pure
