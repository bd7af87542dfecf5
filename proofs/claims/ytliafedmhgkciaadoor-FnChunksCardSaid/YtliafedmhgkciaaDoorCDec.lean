/- Plain laws of decoders: what is held to be a good one. -/
import Derived.Test.YtliafedmhgkciaaDoorCP0
import Derived.Test.YtliafedmhgkciaaDoorC0
import Derived.Test.YtliafedmhgkciaaDoorC4
import Derived.Test.YtliafedmhgkciaaDoorCBegun
import Derived.Test.YtliafedmhgkciaaDoorCRunes1
import Derived.Laws.BitsLemmas
set_option linter.unusedVariables false
set_option linter.unusedSimpArgs false
namespace Go.Proofs.YtliafedmhgkciaaDoor.Pure
open Go.RowKit Go.Proofs.YtliafedmhgkciaaDoor.P Go.Proofs.YtliafedmhgkciaaDoorW.PrintWords
def unitI (en : Int) (s : ByteArray) : Int := if en = 2 then bt s 0 * 256 + bt s 1 else bt s 1 * 256 + bt s 0
theorem specUnit (en : Int) (s : ByteArray) (h : 2 ≤ s.size) : spec_l2Unit.f en s = some (unitI en s) := by
 have r0 := bt_range s 0
 have r1 := bt_range s 1
 unfold spec_l2Unit.f unitI
 rw [w64 (x := bt s 0) (by omega) (by omega), w64 (x := bt s 1) (by omega) (by omega), w64 (x := bt s 0 * 256) (by omega) (by omega), w64 (x := bt s 1 * 256) (by omega) (by omega), w64 (x := bt s 0 * 256 + bt s 1) (by omega) (by omega), w64 (x := bt s 1 * 256 + bt s 0) (by omega) (by omega)]
 rw [if_pos (show (0 : Int) < (s.size : Int) by omega), if_pos (show (1 : Int) < (s.size : Int) by omega), if_pos (show (1 : Int) < (s.size : Int) by omega), if_pos (show (0 : Int) < (s.size : Int) by omega)]
 split <;> rfl
theorem or8 (x y : Int) (h0 : 0 ≤ x) (h1 : x < 256) (h2 : 0 ≤ y) (h3 : y < 256) : Go.bits .or .i64 (x * 256) y = x * 256 + y :=
 bits_join .i64 63 (by decide) (fun n a b => IntWalk.i64_in n (by omega)) 8 (x * 256) y (by omega) (by omega) (by omega) h2 (by omega) (by omega)
theorem implUnit (en : Int) (s : ByteArray) (h : 2 ≤ s.size) : impl_unitAt.f en s = some (unitI en s) := by
 have r0 := bt_range s 0
 have r1 := bt_range s 1
 unfold impl_unitAt.f unitI
 rw [w64 (x := bt s 0) (by omega) (by omega), w64 (x := bt s 1) (by omega) (by omega), w64 (by omega) (by omega), w64 (by omega) (by omega), or8 _ _ (by omega) (by omega) (by omega) (by omega), or8 _ _ (by omega) (by omega) (by omega) (by omega)]
 rw [if_pos (show (0 : Int) < (s.size : Int) by omega), if_pos (show (1 : Int) < (s.size : Int) by omega), if_pos (show (1 : Int) < (s.size : Int) by omega), if_pos (show (0 : Int) < (s.size : Int) by omega)]
 split <;> rfl
def heldB (en : Int) (s : ByteArray) : Bool :=
 if s.size = 0 then true else if en = 1 then begunB s else if en = 2 ∨ en = 3 then (if s.size = 1 then true else if s.size ≤ 3 then inB (unitI en s) 55296 56319 else false) else false
def goodDecB (en sh lo : Int) (s : ByteArray) : Bool := (inB en 1 5 && inB sh 0 1 && inB lo 0 1000 && (decide (en = 5) || !decide (sh + lo > 0))) && heldB en s
theorem nilB (s : ByteArray) : (s.toList == ([] : List UInt8)) = decide (s.size = 0) := by
 by_cases h : s.size = 0
 ·rw [decide_eq_true h]
  exact beq_iff_eq.2 ((nil_iff s).mpr h)
 ·rw [decide_eq_false h]
  exact beq_eq_false_iff_ne.2 (fun x => h ((nil_iff s).mp x))
theorem specUnits (en : Int) : spec_l2Units.f en = some (decide (en = 2 ∨ en = 3)) := by
 unfold spec_l2Units.f
 by_cases h : en = 2
 ·rw [if_pos h, decide_eq_true (.inl h)]
 ·rw [if_neg h]
  by_cases h2 : en = 3
  ·rw [decide_eq_true (.inr h2), h2]; rfl
  ·rw [decide_eq_false (by omega)]
   exact congrArg some (beq_eq_false_iff_ne.2 h2)
theorem implUnits (en : Int) : impl_isUnits.f en = some (decide (en = 2 ∨ en = 3)) := by
 unfold impl_isUnits.f
 by_cases h : en = 2
 ·rw [if_pos h, decide_eq_true (.inl h)]
 ·rw [if_neg h]
  by_cases h2 : en = 3
  ·rw [decide_eq_true (.inr h2), h2]; rfl
  ·rw [decide_eq_false (by omega)]
   exact congrArg some (beq_eq_false_iff_ne.2 h2)
theorem specHeld (en sh lo : Int) (s : ByteArray) : Ev (fun k => spec_GoodDecoder.j0 k false en sh lo s) (heldB en s) := by
 refine Ev.step (fun k => spec_GoodDecoder.j0.eq_2 ..) (Ev.neg (by simp) ?_)
 unfold heldB
 have e0 := nil_iff s
 by_cases h1 : en = 1
 ·refine Ev.pos h1 ?_
  by_cases h0 : s.size = 0
  ·exact Ev.pos (e0.mpr h0) (Ev.some' (by rw [if_pos h0]))
  ·rw [if_neg h0, if_pos h1]
   exact Ev.neg (fun x => h0 (e0.mp x)) (Ev.bind (specBegun s) (Ev.now _))
 refine Ev.neg h1 (Ev.bind0 (specUnits en) ?_)
 rw [if_neg h1]
 by_cases h2 : en = 2 ∨ en = 3
 ·rw [decide_eq_true h2, if_pos h2]
  refine Ev.pos rfl ?_
  by_cases h0 : s.size = 0
  ·exact Ev.pos (by omega) (Ev.some' (by rw [if_pos h0]))
  rw [if_neg h0]
  by_cases h3 : s.size = 1
  ·exact Ev.pos (by omega) (Ev.some' (by rw [if_pos h3]))
  rw [if_neg h3]
  refine Ev.neg (by omega) ?_
  by_cases h4 : s.size ≤ 3
  ·rw [if_pos h4]
   refine Ev.pos (by omega) (Ev.bind0 (specUnit en s (by omega)) ?_)
   unfold spec_l2High.f
   rw [l1In_eq]
   exact Ev.now _
  ·rw [if_neg h4]
   exact Ev.neg (by omega) (Ev.now _)
 ·rw [decide_eq_false h2, if_neg h2]
  refine Ev.neg (by simp) (Ev.some' ?_)
  rw [nilB]
  by_cases h0 : s.size = 0
  ·rw [if_pos h0, decide_eq_true h0]
  ·rw [if_neg h0, decide_eq_false h0]
theorem implHeld (en sh lo : Int) (s : ByteArray) : Ev (fun k => impl_GoodDecoder.j0 k false en sh lo s) (heldB en s) := by
 refine Ev.step (fun k => impl_GoodDecoder.j0.eq_2 ..) (Ev.neg (by simp) ?_)
 unfold heldB
 have e0 := nil_iff s
 by_cases h0 : s.size = 0
 ·exact Ev.pos (e0.mpr h0) (Ev.some' (by rw [if_pos h0]))
 refine Ev.neg (fun x => h0 (e0.mp x)) ?_
 rw [if_neg h0]
 by_cases h1 : en = 1
 ·exact Ev.pos h1 (Ev.bind0 (implIsBegun s) (Ev.some' (by rw [if_pos h1])))
 refine Ev.neg h1 (Ev.bind0 (implUnits en) ?_)
 rw [if_neg h1]
 by_cases h2 : en = 2 ∨ en = 3
 ·rw [decide_eq_true h2, if_pos h2]
  refine Ev.pos rfl ?_
  by_cases h4 : s.size ≤ 3
  ·refine Ev.pos (by omega) ?_
   by_cases h3 : s.size = 1
   ·exact Ev.pos (by omega) (Ev.some' (by rw [if_pos h3]))
   ·rw [if_neg h3, if_pos h4]
    refine Ev.neg (by omega) (Ev.bind0 (implUnit en s (by omega)) ?_)
    unfold impl_isHigh.f
    rw [inRange_eq]
    exact Ev.now _
  ·exact Ev.neg (by omega) (Ev.some' (by rw [if_neg (show ¬ s.size = 1 by omega), if_neg h4]))
 ·rw [decide_eq_false h2, if_neg h2]
  exact Ev.neg (by simp) (Ev.now _)
theorem specGoodDec (en sh lo : Int) (s : ByteArray) : Ev (fun k => spec_GoodDecoder.f k en sh lo s) (goodDecB en sh lo s) := by
 have jt : Ev (fun k => spec_GoodDecoder.j0 k true en sh lo s) false := Ev.step (fun k => spec_GoodDecoder.j0.eq_2 ..) (Ev.pos rfl (Ev.now _))
 have hc : spec_l2Code.f en = some (inB en 1 5) := by unfold spec_l2Code.f; rw [l1In_eq]; rfl
 unfold spec_GoodDecoder.f goodDecB
 refine Ev.bind0 hc ?_
 cases h1 : inB en 1 5
 ·exact Ev.neg (by simp) jt
 refine Ev.pos rfl (Ev.bind0 (l1In_eq _ _ _) ?_)
 cases h2 : inB sh 0 1
 ·exact Ev.neg (by simp) jt
 refine Ev.pos rfl (Ev.bind0 (l1In_eq _ _ _) ?_)
 cases h3 : inB lo 0 1000
 ·exact Ev.neg (by simp) jt
 refine Ev.pos rfl ?_
 by_cases h4 : en = 5
 ·refine Ev.pos h4 (Ev.eq' (specHeld en sh lo s) ?_)
  rw [decide_eq_true h4]
  simp
 ·have e : wrap64 (sh + lo) = sh + lo := by unfold inB at h2 h3; simp at h2 h3; exact w64 (by omega) (by omega)
  refine Ev.neg h4 ?_
  rw [e, decide_eq_false h4]
  cases h5 : decide (sh + lo > 0)
  ·exact Ev.eq' (specHeld en sh lo s) (by simp)
  ·exact jt
theorem implGoodDec (en sh lo : Int) (s : ByteArray) : Ev (fun k => impl_GoodDecoder.f k en sh lo s) (goodDecB en sh lo s) := by
 have jt : Ev (fun k => impl_GoodDecoder.j0 k true en sh lo s) false := Ev.step (fun k => impl_GoodDecoder.j0.eq_2 ..) (Ev.pos rfl (Ev.now _))
 have hc : impl_isCode.f en = some (inB en 1 5) := by unfold impl_isCode.f; rw [inRange_eq]; rfl
 unfold impl_GoodDecoder.f goodDecB
 refine Ev.bind0 hc ?_
 cases h1 : inB en 1 5
 ·exact Ev.neg (by simp) jt
 refine Ev.pos rfl (Ev.bind0 (inRange_eq _ _ _) ?_)
 cases h2 : inB sh 0 1
 ·exact Ev.neg (by simp) jt
 refine Ev.pos rfl (Ev.bind0 (inRange_eq _ _ _) ?_)
 cases h3 : inB lo 0 1000
 ·exact Ev.neg (by simp) jt
 refine Ev.pos rfl ?_
 by_cases h4 : en = 5
 ·refine Ev.pos h4 (Ev.eq' (implHeld en sh lo s) ?_)
  rw [decide_eq_true h4]
  simp
 ·have e : wrap64 (sh + lo) = sh + lo := by unfold inB at h2 h3; simp at h2 h3; exact w64 (by omega) (by omega)
  refine Ev.neg h4 ?_
  rw [e, decide_eq_false h4]
  cases h5 : decide (sh + lo > 0)
  ·exact Ev.eq' (implHeld en sh lo s) (by simp)
  ·exact jt
end Go.Proofs.YtliafedmhgkciaaDoor.Pure
