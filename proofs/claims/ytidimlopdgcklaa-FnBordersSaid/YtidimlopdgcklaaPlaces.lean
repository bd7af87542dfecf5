/- Plain laws: the places, as the program and the reference tell them. -/
import Derived.Test.YtidimlopdgcklaaP15
import Derived.Test.YtidimlopdgcklaaP9
import Derived.Test.YtidimlopdgcklaaRunes
set_option linter.unusedVariables false
set_option linter.unusedSimpArgs false
namespace Go.Proofs.Ytidimlopdgcklaa.Pure
open Go.RowKit Go.Proofs.Ytidimlopdgcklaa.P Go.Proofs.YtidimlopdgcklaaW.PrintWords
/-- The places, from one on, so many tried. -/
def placesG (l w : List Int) : Nat → Nat → List Int → List Int
  | 0, _, acc => acc
  | d + 1, p, acc => placesG l w d (p + 1) (if decide ((l.take (p + w.length)).drop p = w) = true then acc ++ [(p : Int)] else acc)
theorem placesG_length (l w : List Int) : ∀ (d p : Nat) (acc : List Int), (placesG l w d p acc).length ≤ acc.length + d
  | 0, p, acc => by simp [placesG]
  | d + 1, p, acc => by
    unfold placesG
    have h := placesG_length l w d (p + 1)
    split
    · have := h (acc ++ [(p : Int)])
      simp at this
      omega
    · have := h acc
      omega
theorem specPlaces_l (l w : List Int) (hl : l.length ≤ 1000000000) (hw : w.length ≤ 1000000000) : ∀ (d p : Nat) (acc : List Int), d = l.length + 1 - (p + w.length) → acc.length ≤ p → p ≤ l.length + 1 → Ev (fun k => spec_PlacesOf.l0 k l w acc (p : Int)) (placesG l w d p acc, true)
  | 0, p, acc, hd, ha, hp => by
    have hwp : wrap64 ((p : Int) + (w.length : Int)) = ((p + w.length : Nat) : Int) := by rw [w64 (by omega) (by omega)]; omega
    exact Ev.step (fun k => spec_PlacesOf.l0.eq_2 ..) (Ev.neg (by rw [hwp]; omega) (Ev.now _))
  | d + 1, p, acc, hd, ha, hp => by
    have hwp : wrap64 ((p : Int) + (w.length : Int)) = ((p + w.length : Nat) : Int) := by rw [w64 (by omega) (by omega)]; omega
    have hw1 : wrap64 ((p : Int) + 1) = ((p + 1 : Nat) : Int) := by rw [w64 (by omega) (by omega)]; omega
    refine Ev.step (fun k => spec_PlacesOf.l0.eq_2 ..) ?_
    rw [hwp, hw1, Int.toNat_natCast, Int.toNat_natCast]
    refine Ev.pos (by omega) (Ev.pos (by omega) (Ev.pos (by omega) (Ev.bind (l1Same_ev _ _ (by rw [List.length_drop, List.length_take]; omega)) ?_)))
    unfold placesG
    by_cases h : decide ((l.take (p + w.length)).drop p = w) = true
    · rw [if_pos h]
      refine Ev.pos h (Ev.pos (by omega) ?_)
      exact specPlaces_l l w hl hw d (p + 1) _ (by omega) (by simp; omega) (by omega)
    · rw [if_neg h]
      refine Ev.neg h ?_
      exact specPlaces_l l w hl hw d (p + 1) _ (by omega) (by omega) (by omega)
theorem implPlaces_l (l w : List Int) (hl : l.length ≤ 1000000000) (hw : w.length ≤ 1000000000) : ∀ (d p : Nat) (acc : List Int), d = l.length + 1 - (p + w.length) → acc.length ≤ p → p ≤ l.length + 1 → Ev (fun k => impl_PlacesOf.l0 k l w acc (p : Int)) (placesG l w d p acc, true)
  | 0, p, acc, hd, ha, hp => by
    have hwp : wrap64 ((p : Int) + (w.length : Int)) = ((p + w.length : Nat) : Int) := by rw [w64 (by omega) (by omega)]; omega
    exact Ev.step (fun k => impl_PlacesOf.l0.eq_2 ..) (Ev.neg (by rw [hwp]; omega) (Ev.now _))
  | d + 1, p, acc, hd, ha, hp => by
    have hwp : wrap64 ((p : Int) + (w.length : Int)) = ((p + w.length : Nat) : Int) := by rw [w64 (by omega) (by omega)]; omega
    have hw1 : wrap64 ((p : Int) + 1) = ((p + 1 : Nat) : Int) := by rw [w64 (by omega) (by omega)]; omega
    refine Ev.step (fun k => impl_PlacesOf.l0.eq_2 ..) ?_
    rw [hwp, hw1, Int.toNat_natCast, Int.toNat_natCast]
    refine Ev.pos (by omega) (Ev.pos (by omega) (Ev.pos (by omega) (Ev.bind (sEqual _ _ (by rw [List.length_drop, List.length_take]; omega)) ?_)))
    unfold placesG
    by_cases h : decide ((l.take (p + w.length)).drop p = w) = true
    · rw [if_pos h]
      refine Ev.pos h (Ev.pos (by omega) ?_)
      exact implPlaces_l l w hl hw d (p + 1) _ (by omega) (by simp; omega) (by omega)
    · rw [if_neg h]
      refine Ev.neg h ?_
      exact implPlaces_l l w hl hw d (p + 1) _ (by omega) (by omega) (by omega)
def askedP (l w : List Int) : Bool := (decide ((l.length : Int) ≤ 120) && l.all runeB) && (decide (0 < w.length) && decide (w.length ≤ 40) && w.all runeB)
def placesR (l w : List Int) : List Int × Bool := bif askedP l w then (placesG l w (l.length + 1 - (0 + w.length)) 0 [], true) else ([], false)
theorem placesR_length (l w : List Int) : (placesR l w).1.length ≤ l.length + 1 := by
  unfold placesR
  cases askedP l w
  · simp
  · have := placesG_length l w (l.length + 1 - (0 + w.length)) 0 []
    simp only [List.length_nil, cond_true] at this ⊢
    omega
theorem specPlaces (l w : List Int) (hl : l.length ≤ 1000000000) (hw : w.length ≤ 1000000000) : Ev (fun k => spec_PlacesOf.f k l w) (placesR l w) := by
  unfold spec_PlacesOf.f
  refine Ev.bind (l8List l (by omega)) ?_
  unfold placesR askedP
  cases h1 : (decide ((l.length : Int) ≤ 120) && l.all runeB)
  · refine Ev.neg (by simp) (Ev.step (fun k => spec_PlacesOf.j0.eq_2 ..) (Ev.pos rfl (Ev.now _)))
  · refine Ev.pos rfl (Ev.bind (l8Word w (by omega)) ?_)
    cases h2 : (decide (0 < w.length) && decide (w.length ≤ 40) && w.all runeB)
    · exact Ev.step (fun k => spec_PlacesOf.j0.eq_2 ..) (Ev.pos rfl (Ev.now _))
    · exact Ev.step (fun k => spec_PlacesOf.j0.eq_2 ..) (Ev.neg (by simp) (specPlaces_l l w hl hw _ 0 [] rfl (by simp) (by omega)))
theorem implPlaces (l w : List Int) (hl : l.length ≤ 1000000000) (hw : w.length ≤ 1000000000) : Ev (fun k => impl_PlacesOf.f k l w) (placesR l w) := by
  unfold impl_PlacesOf.f
  refine Ev.bind (Ev.congr (fun k => areRunes l 120 k) (Ev.now _)) ?_
  unfold placesR askedP
  cases h1 : (decide ((l.length : Int) ≤ 120) && l.all runeB)
  · refine Ev.neg (by simp) (Ev.step (fun k => impl_PlacesOf.j0.eq_2 ..) (Ev.pos rfl (Ev.now _)))
  · refine Ev.pos rfl (Ev.bind (Ev.congr (fun k => isWord_eq w k) (Ev.now _)) ?_)
    cases h2 : (decide (0 < w.length) && decide (w.length ≤ 40) && w.all runeB)
    · exact Ev.step (fun k => impl_PlacesOf.j0.eq_2 ..) (Ev.pos rfl (Ev.now _))
    · exact Ev.step (fun k => impl_PlacesOf.j0.eq_2 ..) (Ev.neg (by simp) (implPlaces_l l w hl hw _ 0 [] rfl (by simp) (by omega)))
end Go.Proofs.Ytidimlopdgcklaa.Pure
