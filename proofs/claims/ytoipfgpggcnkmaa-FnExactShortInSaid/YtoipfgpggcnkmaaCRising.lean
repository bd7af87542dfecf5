/- Plain laws: lists that rise between bounds. -/
import Derived.Test.YtoipfgpggcnkmaaCP0
import Derived.Test.YtoipfgpggcnkmaaC0
import Derived.Test.YtoipfgpggcnkmaaCLoops
import Derived.Test.YtoipfgpggcnkmaaCRune0
set_option linter.unusedVariables false
set_option linter.unusedSimpArgs false
namespace Go.Proofs.Ytoipfgpggcnkmaa.Pure
open Go.RowKit Go.Proofs.Ytoipfgpggcnkmaa.P Go.Proofs.YtoipfgpggcnkmaaW.PrintWords
theorem inRange_eq' (a b c : Int) : impl_inRange.f a b c = some (inB a b c) := by
 unfold impl_inRange.f inB
 by_cases h : b ≤ a
 ·rw [if_pos h]
  simp [h]
 ·rw [if_neg h]
  simp [h]
theorem isPlace_eq (a b : Int) (h1 : -1000000000000 ≤ b) (h2 : b ≤ 1000000000000) : impl_isPlace.f a b = some (inB a 0 (b - 1)) := by
 unfold impl_isPlace.f
 rw [inRange_eq', w64 (by omega) (by omega)]
 rfl
def riseAt (l : List Int) (lo hi : Int) (i : Nat) : Bool := inB (rd l i) lo hi && (decide (i = 0) || decide (rd l ((i : Int) - 1) < rd l i))
def risingB (l : List Int) (lo hi : Int) : Bool := allFrom (riseAt l lo hi) 0 l.length
theorem l1Rising (l : List Int) (lo hi : Int) (hs : l.length ≤ 1000000000000) : Ev (fun k => spec_l1Rising.f k l lo hi) (risingB l lo hi) := by
 have h := Ev.allLoop (g := fun k i => spec_l1Rising.l0 k l lo hi l (l.length : Int) (i : Int)) (p := riseAt l lo hi) (n := l.length) (r := true)
  (Ev.step (fun k => spec_l1Rising.l0.eq_2 ..) (Ev.neg (by omega) (Ev.now _)))
  (fun i hi0 hp => by
   refine Ev.step (fun k => spec_l1Rising.l0.eq_2 ..) (Ev.pos (by omega) (Ev.pos (by omega) (Ev.pos (by omega) (Ev.bind0 (l1In_eq _ _ _) ?_))))
   unfold riseAt at hp
   cases h1 : inB (rd l i) lo hi
   ·exact Ev.neg (by simp) (Ev.now _)
   ·rw [h1, Bool.true_and, Bool.or_eq_false_iff, decide_eq_false_iff_not, decide_eq_false_iff_not] at hp
    refine Ev.pos rfl (Ev.pos (by omega) ?_)
    rw [w64 (by omega) (by omega)]
    exact Ev.pos (by omega) (Ev.pos (by omega) (Ev.pos (by omega) (Ev.now _))))
  (fun i v hi0 hp hv => by
   refine Ev.step (fun k => spec_l1Rising.l0.eq_2 ..) (Ev.pos (by omega) (Ev.pos (by omega) (Ev.pos (by omega) (Ev.bind0 (l1In_eq _ _ _) ?_))))
   unfold riseAt at hp
   rw [Bool.and_eq_true, Bool.or_eq_true, decide_eq_true_eq, decide_eq_true_eq] at hp
   refine Ev.pos hp.1 ?_
   rw [w64s (by omega)]
   by_cases h0 : (i : Int) > 0
   ·refine Ev.pos h0 ?_
    rw [w64 (by omega) (by omega)]
    exact Ev.pos (by omega) (Ev.pos (by omega) (Ev.neg (by omega) hv))
   ·exact Ev.neg h0 hv)
  l.length 0 (by omega)
 rw [Bool.and_true] at h
 exact h
theorem isRising (l : List Int) (lo hi : Int) (hs : l.length ≤ 1000000000000) : Ev (fun k => impl_isRising.f k l lo hi) (risingB l lo hi) := by
 have h := Ev.allLoop (g := fun k i => impl_isRising.l0 k l lo hi l (l.length : Int) (i : Int)) (p := riseAt l lo hi) (n := l.length) (r := true)
  (Ev.step (fun k => impl_isRising.l0.eq_2 ..) (Ev.neg (by omega) (Ev.now _)))
  (fun i hi0 hp => by
   refine Ev.step (fun k => impl_isRising.l0.eq_2 ..) (Ev.pos (by omega) (Ev.pos (by omega) (Ev.pos (by omega) (Ev.bind0 (inRange_eq' _ _ _) ?_))))
   unfold riseAt at hp
   cases h1 : inB (rd l i) lo hi
   ·exact Ev.neg (by simp) (Ev.now _)
   ·rw [h1, Bool.true_and, Bool.or_eq_false_iff, decide_eq_false_iff_not, decide_eq_false_iff_not] at hp
    refine Ev.pos rfl (Ev.pos (by omega) ?_)
    rw [w64 (by omega) (by omega)]
    exact Ev.pos (by omega) (Ev.pos (by omega) (Ev.pos (by omega) (Ev.now _))))
  (fun i v hi0 hp hv => by
   refine Ev.step (fun k => impl_isRising.l0.eq_2 ..) (Ev.pos (by omega) (Ev.pos (by omega) (Ev.pos (by omega) (Ev.bind0 (inRange_eq' _ _ _) ?_))))
   unfold riseAt at hp
   rw [Bool.and_eq_true, Bool.or_eq_true, decide_eq_true_eq, decide_eq_true_eq] at hp
   refine Ev.pos hp.1 ?_
   rw [w64s (by omega)]
   by_cases h0 : (i : Int) > 0
   ·refine Ev.pos h0 ?_
    rw [w64 (by omega) (by omega)]
    exact Ev.pos (by omega) (Ev.pos (by omega) (Ev.neg (by omega) hv))
   ·exact Ev.neg h0 hv)
  l.length 0 (by omega)
 rw [Bool.and_true] at h
 exact h
end Go.Proofs.Ytoipfgpggcnkmaa.Pure
