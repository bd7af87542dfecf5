/- Plain laws of the marks of lists of lists. -/
import Derived.Test.YtoipfgpggcnkmaaCP0
import Derived.Test.YtoipfgpggcnkmaaC0
import Derived.Test.YtoipfgpggcnkmaaCMark0
import Derived.Test.YtoipfgpggcnkmaaCBase
import Derived.Test.YtoipfgpggcnkmaaCLists
set_option linter.unusedVariables false
set_option linter.unusedSimpArgs false
namespace Go.Proofs.Ytoipfgpggcnkmaa.Pure
open Go.RowKit Go.Proofs.Ytoipfgpggcnkmaa.P Go.Proofs.YtoipfgpggcnkmaaW.PrintWords
theorem take_set_succ {α : Type} (xs : List α) (i : Nat) (v : α) (h : i < xs.length) : (xs.set i v).take (i + 1) = xs.take i ++ [v] := by
 rw [List.take_succ_eq_append_getElem (show i < (xs.set i v).length by simpa using h), List.getElem_set_self]
 congr 1
 apply List.ext_getElem?
 intro j
 by_cases hj : j < i
 ·rw [List.getElem?_take_of_lt hj, List.getElem?_take_of_lt hj, List.getElem?_set_ne (by omega)]
 ·rw [List.getElem?_eq_none (by rw [List.length_take]; omega), List.getElem?_eq_none (by rw [List.length_take]; omega)]
theorem drop_set_succ {α : Type} (xs : List α) (i : Nat) (v : α) : (xs.set i v).drop (i + 1) = xs.drop (i + 1) := by
 apply List.ext_getElem?
 intro j
 rw [List.getElem?_drop, List.getElem?_drop, List.getElem?_set_ne (by omega)]
def markedSS (a : Int) : List (List Int) → List (List Int)
 | [] => []
 | x :: l => marked a x.length :: markedSS (a + (x.length : Int)) l
theorem markedSS_length : ∀ (l : List (List Int)) (a : Int), (markedSS a l).length = l.length
 | [], _ => rfl
 | x :: l, a => by simp [markedSS, markedSS_length l]
theorem markIntSS_l : ∀ (d i : Nat) (a : Int) (xs : List (List Int)), i + d = xs.length → xs.length ≤ 1000000000000 → 0 ≤ a → a + (sumLen (xs.drop i) : Int) ≤ 100000000000 → Ev (fun k => laws_markIntSS.l0 k xs a (i : Int)) (a + (sumLen (xs.drop i) : Int), xs.take i ++ markedSS a (xs.drop i))
 | 0, i, a, xs, hd, hl, h0, h1 => by
  refine Ev.step (fun k => laws_markIntSS.l0.eq_2 ..) (Ev.neg (by omega) (Ev.some' ?_))
  rw [List.drop_eq_nil_of_le (by omega), List.take_of_length_le (by omega)]
  simp [sumLen, markedSS]
 | d + 1, i, a, xs, hd, hl, h0, h1 => by
  have hi : i < xs.length := by omega
  rw [drop_cons xs hi] at h1 ⊢
  simp only [sumLen] at h1
  refine Ev.step (fun k => laws_markIntSS.l0.eq_2 ..) (Ev.pos (by omega) (Ev.pos (by omega) ?_))
  rw [Int.toNat_natCast, List.getD_eq_getElem?_getD, List.getElem?_eq_getElem hi, Option.getD_some]
  refine Ev.bind (markIntS xs[i] a h0 (by omega) (by omega)) ?_
  have h := markIntSS_l d (i + 1) (a + ((xs[i]).length : Int)) (xs.set i (marked a (xs[i]).length)) (by simp; omega) (by simpa using hl) (by omega) (by rw [drop_set_succ]; omega)
  rw [drop_set_succ, take_set_succ xs i _ hi, List.append_assoc] at h
  rw [w64s (by omega)]
  simp only [sumLen, markedSS]
  rw [show a + (((xs[i]).length + sumLen (xs.drop (i + 1)) : Nat) : Int) = a + ((xs[i]).length : Int) + (sumLen (xs.drop (i + 1)) : Int) by omega]
  exact h
theorem markIntSS (l : List (List Int)) (a : Int) (hl : l.length ≤ 1000000000000) (h0 : 0 ≤ a) (h1 : a + (sumLen l : Int) ≤ 100000000000) : Ev (fun k => laws_markIntSS.f k l a) (a + (sumLen l : Int), markedSS a l) := by
 unfold laws_markIntSS.f
 exact markIntSS_l l.length 0 a l (by omega) hl h0 h1
end Go.Proofs.Ytoipfgpggcnkmaa.Pure
