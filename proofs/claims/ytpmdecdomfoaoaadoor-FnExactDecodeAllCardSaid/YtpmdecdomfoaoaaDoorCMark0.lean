/- Plain laws of lists and of the printed functions' rounds: what marks lists of whole numbers. -/
import Derived.Test.YtpmdecdomfoaoaaDoorCP0
import Derived.Test.YtpmdecdomfoaoaaDoorC5
import Derived.Test.YtpmdecdomfoaoaaDoorCBase0
set_option linter.unusedVariables false
set_option linter.unusedSimpArgs false
namespace Go.Proofs.YtpmdecdomfoaoaaDoor.Pure
open Go.RowKit Go.Proofs.YtpmdecdomfoaoaaDoor.P Go.Proofs.YtpmdecdomfoaoaaDoorW.PrintWords
def marked (a : Int) : Nat → List Int
 | 0 => []
 | n + 1 => marked a n ++ [a + n]
theorem marked_length (a : Int) : ∀ n, (marked a n).length = n
 | 0 => rfl
 | n + 1 => by simp [marked, marked_length a n]
theorem marked_get (a : Int) : ∀ (n i : Nat) (h : i < (marked a n).length), (marked a n)[i] = a + i
 | 0, i, h => by simp [marked] at h
 | n + 1, i, h => by
  have hl := marked_length a n
  by_cases hi : i < n
  ·have := marked_get a n i (by omega)
   simp only [marked]
   rw [List.getElem_append_left (by omega)]
   exact this
  ·have h2 : i = n := by rw [marked_length] at h; omega
   subst h2
   simp only [marked]
   rw [List.getElem_append_right (by omega)]
   simp [hl]
theorem markIntS_l (x0 : List Int) (a : Int) (ha : 0 ≤ a) (ha2 : a ≤ 1000000000000000) (hs : x0.length ≤ 1000000000000) : ∀ (d i : Nat) (xs : List Int), i + d = x0.length → xs.length = x0.length → xs.take i = marked a i → Ev (fun k => laws_markIntS.l0 k xs (a + i) (i : Int)) (a + (x0.length : Int), marked a x0.length)
 | 0, i, xs, hd, hl, ht => by
  refine Ev.step (fun k => laws_markIntS.l0.eq_2 ..) (Ev.neg (by omega) (Ev.some' ?_))
  rw [List.take_of_length_le (by omega)] at ht
  rw [ht, show i = x0.length by omega]
 | d + 1, i, xs, hd, hl, ht => by
  refine Ev.step (fun k => laws_markIntS.l0.eq_2 ..) (Ev.pos (by omega) (Ev.pos (by omega) ?_))
  rw [w64 (by omega) (by omega), w64 (by omega) (by omega), Int.toNat_natCast, Int.add_assoc]
  refine markIntS_l x0 a ha ha2 hs d (i + 1) (xs.set i (a + i)) (by omega) (by simpa using hl) ?_
  simp only [marked]
  apply List.ext_getElem?
  intro j
  have h1 : (xs.take i)[j]? = (marked a i)[j]? := congrArg (fun l => l[j]?) ht
  by_cases hj : j < i
  ·rw [List.getElem?_take_of_lt (by omega), List.getElem?_set_ne (by omega), List.getElem?_append_left (by rw [marked_length]; omega), ← h1, List.getElem?_take_of_lt hj]
  ·by_cases hji : j = i
   ·subst hji
    rw [List.getElem?_take_of_lt (by omega), List.getElem?_set_self (by omega), List.getElem?_append_right (by rw [marked_length]; omega), marked_length]
    simp
   ·rw [List.getElem?_eq_none (by rw [List.length_take]; omega), List.getElem?_eq_none (by rw [List.length_append, marked_length]; simp; omega)]
theorem markIntS (l : List Int) (a : Int) (ha : 0 ≤ a) (ha2 : a ≤ 1000000000000000) (hs : l.length ≤ 1000000000000) : Ev (fun k => laws_markIntS.f k l a) (a + (l.length : Int), marked a l.length) := by
 unfold laws_markIntS.f
 have := markIntS_l l a ha ha2 hs l.length 0 l (by omega) rfl rfl
 simpa using this
end Go.Proofs.YtpmdecdomfoaoaaDoor.Pure
