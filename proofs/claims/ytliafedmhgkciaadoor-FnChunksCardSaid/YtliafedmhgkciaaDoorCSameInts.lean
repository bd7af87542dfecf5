/- Plain laws: lists of whole numbers that are held against each other. -/
import Derived.Test.YtliafedmhgkciaaDoorCP0
import Derived.Test.YtliafedmhgkciaaDoorC0
import Derived.Test.YtliafedmhgkciaaDoorC5
import Derived.Test.YtliafedmhgkciaaDoorCLoops
set_option linter.unusedVariables false
set_option linter.unusedSimpArgs false
namespace Go.Proofs.YtliafedmhgkciaaDoor.Pure
open Go.RowKit Go.Proofs.YtliafedmhgkciaaDoor.P Go.Proofs.YtliafedmhgkciaaDoorW.PrintWords
theorem sameInts_l (a b : List Int) (hs : a.length ≤ 1000000000000) (hl : a.length = b.length) : ∀ (d i : Nat), i + d = a.length → a.take i = b.take i → Ev (fun k => laws_sameInts.l0 k a b (a.length : Int) (i : Int)) (decide (a = b))
 | 0, i, hd, ht => by
  refine Ev.step (fun k => laws_sameInts.l0.eq_2 ..) (Ev.neg (by omega) (Ev.some' ?_))
  rw [List.take_of_length_le (by omega), List.take_of_length_le (by omega)] at ht
  simp [ht]
 | d + 1, i, hd, ht => by
  refine Ev.step (fun k => laws_sameInts.l0.eq_2 ..) (Ev.pos (by omega) (Ev.pos (by omega) (Ev.pos (by omega) (Ev.pos (by omega) ?_))))
  rw [rd_eq a (show i < a.length by omega), rd_eq b (show i < b.length by omega)]
  by_cases h : a[i]'(by omega) = b[i]'(by omega)
  ·refine Ev.pos h ?_
   rw [w64s (by omega)]
   refine sameInts_l a b hs hl d (i + 1) (by omega) ?_
   rw [List.take_succ_eq_append_getElem (by omega), List.take_succ_eq_append_getElem (by omega), ht, h]
  ·refine Ev.neg h (Ev.some' ?_)
   symm
   rw [decide_eq_false_iff_not]
   rintro rfl
   exact h rfl
theorem sameInts (a b : List Int) (hs : a.length ≤ 1000000000000) : Ev (fun k => laws_sameInts.f k a b) (decide (a = b)) := by
 unfold laws_sameInts.f
 by_cases hl : a.length = b.length
 ·exact Ev.pos (by omega) (sameInts_l a b hs hl a.length 0 (by omega) (by simp))
 ·refine Ev.neg (by omega) (Ev.some' ?_)
  symm
  rw [decide_eq_false_iff_not]
  rintro rfl
  exact hl rfl
theorem sameInts_self (a : List Int) (hs : a.length ≤ 1000000000000) : Ev (fun k => laws_sameInts.f k a a) true := by simpa using sameInts a a hs
theorem big_cases (a b : List Int) (ha : a.length ≤ 1000000000000000) (hb : b.length ≤ 1000000000000000) : laws_big.f a b = some true ∨ (laws_big.f a b = some false ∧ a.length ≤ 1048576 ∧ b.length ≤ 1048576) := by
 unfold laws_big.f
 by_cases h : (a.length : Int) > 1048576
 ·rw [if_pos h]
  exact .inl rfl
 ·rw [if_neg h, w64 (by omega) (by omega)]
  by_cases h2 : (b.length : Int) > 1048576 - (a.length : Int)
  ·rw [decide_eq_true h2]
   exact .inl rfl
  ·rw [decide_eq_false h2]
   exact .inr ⟨rfl, by omega, by omega⟩
end Go.Proofs.YtliafedmhgkciaaDoor.Pure
