/- Plain laws of runes: what the program and the reference hold to be lists of runes. -/
import Derived.Test.YtliafedmhgkciaaDoorCP0
import Derived.Test.YtliafedmhgkciaaDoorC1
import Derived.Test.YtliafedmhgkciaaDoorC4
import Derived.Test.YtliafedmhgkciaaDoorC7
import Derived.Test.YtliafedmhgkciaaDoorCBase0
import Derived.Test.YtliafedmhgkciaaDoorCRune0
set_option linter.unusedVariables false
set_option linter.unusedSimpArgs false
namespace Go.Proofs.YtliafedmhgkciaaDoor.Pure
open Go.RowKit Go.Proofs.YtliafedmhgkciaaDoor.P Go.Proofs.YtliafedmhgkciaaDoorW.PrintWords

theorem inRange_eq (a b c : Int) : impl_inRange.f a b c = some (inB a b c) := by
 unfold impl_inRange.f inB
 by_cases h : b ≤ a
 ·rw [if_pos h]
  simp [h]
 ·rw [if_neg h]
  simp [h]
theorem implGoodRune_eq (r : Int) : impl_GoodRune.f r = some (runeB r) := by
 unfold impl_GoodRune.f runeB
 rw [inRange_eq, inRange_eq]
 simp only [Option.bind_some]
 cases inB r 0 1114111 <;> simp
theorem l1AllRunes_l (l : List Int) (hs : l.length ≤ 1000000000000) : ∀ (d i : Nat), i + d = l.length → Ev (fun k => spec_l1AllRunes.l0 k l l (l.length : Int) (i : Int)) ((l.drop i).all runeB && decide (l.length ≤ 1000))
 | 0, i, hd => by
  refine Ev.step (fun k => spec_l1AllRunes.l0.eq_2 ..) (Ev.neg (by omega) (Ev.some' ?_))
  rw [List.drop_eq_nil_of_le (by omega), List.all_nil, Bool.true_and]
  exact decide_eq_decide.2 (by omega)
 | d + 1, i, hd => by
  refine Ev.step (fun k => spec_l1AllRunes.l0.eq_2 ..) (Ev.pos (by omega) (Ev.pos (by omega) (Ev.pos (by omega) ?_)))
  rw [rd_eq l (show i < l.length by omega), specGoodRune_eq, drop_cons l (show i < l.length by omega), List.all_cons]
  simp only [Option.bind_some]
  cases h : runeB (l[i]'(by omega))
  ·refine Ev.neg (by simp) (Ev.some' ?_)
   simp
  ·refine Ev.pos rfl ?_
   rw [w64 (by omega) (by omega)]
   simpa using l1AllRunes_l l hs d (i + 1) (by omega)
theorem l1AllRunes (l : List Int) (hs : l.length ≤ 1000000000000) : Ev (fun k => spec_l1AllRunes.f k l) (l.all runeB && decide (l.length ≤ 1000)) := by
 unfold spec_l1AllRunes.f
 simpa using l1AllRunes_l l hs l.length 0 (by omega)
theorem areRunes1_eq (x : Int) : impl_areRunes_1.f x = some (!runeB x) := by
 unfold impl_areRunes_1.f
 rw [implGoodRune_eq]
 rfl
theorem areRunes (l : List Int) (n : Int) (k : Nat) : impl_areRunes.f k l n = some (decide ((l.length : Int) ≤ n) && l.all runeB) := by
 unfold impl_areRunes.f slices_ContainsFunc_int_int_103.f
 rw [anyO_eq (fun x _ => areRunes1_eq x)]
 by_cases h : (l.length : Int) ≤ n
 ·rw [if_pos h, Option.bind_some, List.not_any_eq_all_not]
  simp [h]
 ·rw [if_neg h]
  simp [h]
end Go.Proofs.YtliafedmhgkciaaDoor.Pure
