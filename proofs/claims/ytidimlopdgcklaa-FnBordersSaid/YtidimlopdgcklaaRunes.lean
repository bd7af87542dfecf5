/- Plain laws of runes: what the program and the reference hold to be lists of runes. -/
import Derived.Test.YtidimlopdgcklaaP10
import Derived.Test.YtidimlopdgcklaaP12
import Derived.Test.YtidimlopdgcklaaP15
import Derived.Test.YtidimlopdgcklaaP9
import Derived.Test.YtidimlopdgcklaaBase
import Derived.Test.YtidimlopdgcklaaRune0
set_option linter.unusedVariables false
set_option linter.unusedSimpArgs false
namespace Go.Proofs.Ytidimlopdgcklaa.Pure
open Go.RowKit Go.Proofs.Ytidimlopdgcklaa.P Go.Proofs.YtidimlopdgcklaaW.PrintWords

theorem inRange_eq (a b c : Int) : impl_inRange.f a b c = some (inB a b c) := by
  unfold impl_inRange.f inB
  by_cases h : b ≤ a
  · rw [if_pos h]
    simp [h]
  · rw [if_neg h]
    simp [h]
theorem implGoodRune_eq (r : Int) : impl_GoodRune.f r = some (runeB r) := by
  unfold impl_GoodRune.f runeB
  rw [inRange_eq, inRange_eq]
  simp only [Option.bind_some]
  cases inB r 0 1114111 <;> simp
theorem l1AllRunes_l (l : List Int) (hs : l.length ≤ 1000000000000) : ∀ (d i : Nat), i + d = l.length → Ev (fun k => spec_l1AllRunes.l0 k l l (l.length : Int) (i : Int)) ((l.drop i).all runeB && decide (l.length ≤ 1000))
  | 0, i, hd => by
    refine Ev.step (fun k => spec_l1AllRunes.l0.eq_2 ..) (Ev.neg (by omega) (Ev.some' ?_))
    rw [List.drop_eq_nil_of_le (by omega), List.all_nil, Bool.true_and]
    exact decide_eq_decide.2 (by omega)
  | d + 1, i, hd => by
    refine Ev.step (fun k => spec_l1AllRunes.l0.eq_2 ..) (Ev.pos (by omega) (Ev.pos (by omega) (Ev.pos (by omega) ?_)))
    rw [rd_eq l (show i < l.length by omega), specGoodRune_eq, drop_cons l (show i < l.length by omega), List.all_cons]
    simp only [Option.bind_some]
    cases h : runeB (l[i]'(by omega))
    · refine Ev.neg (by simp) (Ev.some' ?_)
      simp
    · refine Ev.pos rfl ?_
      rw [w64 (by omega) (by omega)]
      simpa using l1AllRunes_l l hs d (i + 1) (by omega)
theorem l1AllRunes (l : List Int) (hs : l.length ≤ 1000000000000) : Ev (fun k => spec_l1AllRunes.f k l) (l.all runeB && decide (l.length ≤ 1000)) := by
  unfold spec_l1AllRunes.f
  simpa using l1AllRunes_l l hs l.length 0 (by omega)
theorem areRunes1_eq (x : Int) : impl_areRunes_1.f x = some (!runeB x) := by
  unfold impl_areRunes_1.f
  rw [implGoodRune_eq]
  rfl
theorem areRunes (l : List Int) (n : Int) (k : Nat) : impl_areRunes.f k l n = some (decide ((l.length : Int) ≤ n) && l.all runeB) := by
  unfold impl_areRunes.f slices_ContainsFunc_int_int_96.f
  rw [anyO_eq (fun x _ => areRunes1_eq x)]
  by_cases h : (l.length : Int) ≤ n
  · rw [if_pos h, Option.bind_some, List.not_any_eq_all_not]
    simp [h]
  · rw [if_neg h]
    simp [h]
theorem isWord_eq (l : List Int) (k : Nat) : impl_isWord.f k l = some (decide (0 < l.length) && decide (l.length ≤ 40) && l.all runeB) := by
  unfold impl_isWord.f
  rw [areRunes]
  by_cases h : (l.length : Int) > 0
  · rw [if_pos h]
    have h2 : 0 < l.length := by omega
    have h3 : decide ((l.length : Int) ≤ 40) = decide (l.length ≤ 40) := decide_eq_decide.2 (by omega)
    rw [Option.bind_some, h3, decide_eq_true h2, Bool.true_and]
  · rw [if_neg h]
    have : ¬ 0 < l.length := by omega
    simp [this]
theorem l8List (l : List Int) (hs : l.length ≤ 1000000000000) : Ev (fun k => spec_l8List.f k l) (decide ((l.length : Int) ≤ 120) && l.all runeB) := by
  unfold spec_l8List.f
  refine Ev.bind (l1AllRunes l hs) ?_
  by_cases h : (l.all runeB && decide (l.length ≤ 1000)) = true
  · refine Ev.pos h (Ev.some' ?_)
    rw [Bool.and_eq_true] at h
    rw [h.1, Bool.and_true]
  · refine Ev.neg h (Ev.some' ?_)
    simp only [Bool.not_eq_true] at h
    by_cases h2 : (l.length : Int) ≤ 120
    · have h3 : l.length ≤ 1000 := by omega
      simp [h3] at h
      simp [h2]
      exact h
    · simp [h2]
theorem l8Word (l : List Int) (hs : l.length ≤ 1000000000000) : Ev (fun k => spec_l8Word.f k l) (decide (0 < l.length) && decide (l.length ≤ 40) && l.all runeB) := by
  unfold spec_l8Word.f
  refine Ev.bind (l1AllRunes l hs) ?_
  rw [l1In_eq]
  by_cases h : (l.all runeB && decide (l.length ≤ 1000)) = true
  · refine Ev.pos h (Ev.some' ?_)
    rw [Bool.and_eq_true] at h
    rw [h.1, Bool.and_true]
    unfold inB
    congr 1 <;> (apply decide_eq_decide.2; omega)
  · refine Ev.neg h (Ev.some' ?_)
    simp only [Bool.not_eq_true] at h
    by_cases h2 : l.length ≤ 40
    · have h3 : l.length ≤ 1000 := by omega
      rw [decide_eq_true h3, Bool.and_true] at h
      rw [h, Bool.and_false]
    · rw [decide_eq_false h2]
      simp
theorem l1All_l (l : List Int) (lo hi : Int) (hs : l.length ≤ 1000000000000) : ∀ (d i : Nat), i + d = l.length → Ev (fun k => spec_l1All.l0 k lo hi l (l.length : Int) (i : Int)) ((l.drop i).all (fun x => inB x lo hi))
  | 0, i, hd => by
    refine Ev.step (fun k => spec_l1All.l0.eq_2 ..) (Ev.neg (by omega) (Ev.some' ?_))
    rw [List.drop_eq_nil_of_le (by omega)]
    simp
  | d + 1, i, hd => by
    refine Ev.step (fun k => spec_l1All.l0.eq_2 ..) (Ev.pos (by omega) (Ev.pos (by omega) (Ev.pos (by omega) ?_)))
    rw [rd_eq l (show i < l.length by omega), l1In_eq, drop_cons l (show i < l.length by omega), List.all_cons]
    simp only [Option.bind_some]
    cases h : inB (l[i]'(by omega)) lo hi
    · refine Ev.neg (by simp) (Ev.some' ?_)
      simp
    · refine Ev.pos rfl ?_
      rw [w64 (by omega) (by omega)]
      simpa using l1All_l l lo hi hs d (i + 1) (by omega)
theorem l1All (l : List Int) (lo hi : Int) (hs : l.length ≤ 1000000000000) : Ev (fun k => spec_l1All.f k l lo hi) (l.all (fun x => inB x lo hi)) := by
  unfold spec_l1All.f
  simpa using l1All_l l lo hi hs l.length 0 (by omega)
theorem sEqual_l (a b : List Int) (hs : a.length ≤ 1000000000000) (hl : a.length = b.length) : ∀ (d i : Nat), i + d = a.length → a.take i = b.take i → Ev (fun k => slices_Equal_int_int.l0 k a b (a.length : Int) (i : Int)) (decide (a = b))
  | 0, i, hd, ht => by
    refine Ev.step (fun k => slices_Equal_int_int.l0.eq_2 ..) (Ev.neg (by omega) (Ev.some' ?_))
    rw [List.take_of_length_le (by omega), List.take_of_length_le (by omega)] at ht
    simp [ht]
  | d + 1, i, hd, ht => by
    refine Ev.step (fun k => slices_Equal_int_int.l0.eq_2 ..) (Ev.pos (by omega) (Ev.pos (by omega) (Ev.pos (by omega) (Ev.pos (by omega) ?_))))
    rw [rd_eq a (show i < a.length by omega), rd_eq b (show i < b.length by omega)]
    by_cases h : a[i]'(by omega) = b[i]'(by omega)
    · refine Ev.pos h ?_
      rw [w64 (by omega) (by omega)]
      refine sEqual_l a b hs hl d (i + 1) (by omega) ?_
      rw [List.take_succ_eq_append_getElem (by omega), List.take_succ_eq_append_getElem (by omega), ht, h]
    · refine Ev.neg h (Ev.some' ?_)
      symm
      rw [decide_eq_false_iff_not]
      rintro rfl
      exact h rfl
theorem sEqual (a b : List Int) (hs : a.length ≤ 1000000000000) : Ev (fun k => slices_Equal_int_int.f k a b) (decide (a = b)) := by
  unfold slices_Equal_int_int.f
  by_cases hl : a.length = b.length
  · exact Ev.pos (by omega) (sEqual_l a b hs hl a.length 0 (by omega) (by simp))
  · refine Ev.neg (by omega) (Ev.some' ?_)
    symm
    rw [decide_eq_false_iff_not]
    rintro rfl
    exact hl rfl
end Go.Proofs.Ytidimlopdgcklaa.Pure
