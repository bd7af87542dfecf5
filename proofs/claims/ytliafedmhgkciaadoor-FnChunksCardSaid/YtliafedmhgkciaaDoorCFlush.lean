/- Plain laws of decoders: what is let go when nothing comes any more. -/
import Derived.Test.YtliafedmhgkciaaDoorCP0
import Derived.Test.YtliafedmhgkciaaDoorC5
import Derived.Test.YtliafedmhgkciaaDoorCChunks
set_option linter.unusedVariables false
set_option linter.unusedSimpArgs false
namespace Go.Proofs.YtliafedmhgkciaaDoor.Pure
open Go.RowKit Go.Proofs.YtliafedmhgkciaaDoor.P Go.Proofs.YtliafedmhgkciaaDoorW.PrintWords
def flushL (n : Nat) : Nat → Nat → List Int
 | 0, _ => []
 | d + 1, m => if m = 0 then [] else ((min n m : Nat) : Int) :: flushL n d (m - min n m)
theorem flushL_le (n : Nat) : ∀ (d m : Nat), (flushL n d m).length ≤ d
 | 0, m => by simp [flushL]
 | d + 1, m => by
  unfold flushL
  split
  ·simp
  ·have := flushL_le n d (m - min n m)
   simp only [List.length_cons]
   omega
theorem implFlush_l (en sh lo : Int) (n : Nat) (hn : 1 ≤ n) : ∀ (d : Nat) (x : ByteArray) (r l : List Int), x.size ≤ d → r.length + d ≤ 100000000 → l.length + d ≤ 100000000 →
  Ev (fun k => impl_Decoder_flush.l0 k r l (n : Int) en sh lo x) (r ++ List.replicate (flushL n d x.size).length 65533, l ++ flushL n d x.size, en, sh, lo, (⟨#[]⟩ : ByteArray))
 | 0, x, r, l, hd, b1, b2 => by
  have e := nil_size x (by omega)
  subst e
  refine Ev.step (fun k => impl_Decoder_flush.l0.eq_2 ..) (Ev.pos ((nil_iff _).mpr rfl) (Ev.some' ?_))
  simp [flushL]
 | d + 1, x, r, l, hd, b1, b2 => by
  refine Ev.step (fun k => impl_Decoder_flush.l0.eq_2 ..) ?_
  unfold flushL
  by_cases h0 : x.size = 0
  ·have e := nil_size x h0
   subst e
   refine Ev.pos ((nil_iff _).mpr rfl) (Ev.some' ?_)
   simp <;> rfl
  have em : mn (n : Int) (x.size : Int) = ((min n x.size : Nat) : Int) := by unfold mn; split <;> omega
  refine Ev.neg (fun hh => h0 ((nil_iff x).mp hh)) (Ev.pos (by omega) (Ev.pos (by omega) ?_))
  rw [em]
  refine Ev.pos (by omega) (Ev.pos (by omega) ?_)
  rw [if_neg h0, Int.toNat_natCast]
  have ih := implFlush_l en sh lo n hn d (x.extract (min n x.size) x.size) (r ++ [65533]) (l ++ [((min n x.size : Nat) : Int)]) (by rw [ByteArray.size_extract]; omega) (by simp; omega) (by simp; omega)
  rw [ByteArray.size_extract, Nat.min_self] at ih
  simpa [List.replicate_succ] using ih
theorem implFlush (en sh lo : Int) (x : ByteArray) (hx : x.size ≤ 10000000) : Ev (fun k => impl_Decoder_flush.f k en sh lo x) (List.replicate (flushL (if en = 2 ∨ en = 3 then 2 else 1) x.size x.size).length 65533, flushL (if en = 2 ∨ en = 3 then 2 else 1) x.size x.size, en, sh, lo, (⟨#[]⟩ : ByteArray)) := by
 unfold impl_Decoder_flush.f
 refine Ev.bind0 rfl (Ev.bind0 rfl (Ev.bind0 (implUnits en) ?_))
 by_cases h : en = 2 ∨ en = 3
 ·rw [decide_eq_true h, if_pos h]
  have := implFlush_l en sh lo 2 (by omega) x.size x [] [] (Nat.le_refl _) (by simp; omega) (by simp; omega)
  exact Ev.pos rfl (Ev.step (fun k => impl_Decoder_flush.j0.eq_2 ..) (by simpa using this))
 ·rw [decide_eq_false h, if_neg h]
  have := implFlush_l en sh lo 1 (by omega) x.size x [] [] (Nat.le_refl _) (by simp; omega) (by simp; omega)
  exact Ev.neg (by simp) (Ev.step (fun k => impl_Decoder_flush.j0.eq_2 ..) (by simpa using this))
theorem specFlush_l (en sh lo : Int) (h : ByteArray) (n : Nat) (hn : n = if en = 2 ∨ en = 3 then 2 else 1) : ∀ (d : Nat) (x : ByteArray) (r l : List Int), x.size ≤ d → r.length + d ≤ 100000000 → l.length + d ≤ 100000000 →
  Ev (fun k => spec_l2Flush.l0 k r l x en sh lo h) (en, sh, lo, (⟨#[]⟩ : ByteArray), r ++ List.replicate (flushL n d x.size).length 65533, l ++ flushL n d x.size)
 | 0, x, r, l, hd, b1, b2 => by
  have e := nil_size x (by omega)
  subst e
  refine Ev.step (fun k => spec_l2Flush.l0.eq_2 ..) (Ev.pos ((nil_iff _).mpr rfl) (Ev.some' ?_))
  simp [flushL]
 | d + 1, x, r, l, hd, b1, b2 => by
  refine Ev.step (fun k => spec_l2Flush.l0.eq_2 ..) ?_
  unfold flushL
  by_cases h0 : x.size = 0
  ·have e := nil_size x h0
   subst e
   refine Ev.pos ((nil_iff _).mpr rfl) (Ev.some' ?_)
   simp <;> rfl
  refine Ev.neg (fun hh => h0 ((nil_iff x).mp hh)) (Ev.bind0 (specUnits en) ?_)
  rw [if_neg h0]
  have hn1 : 1 ≤ n := by rw [hn]; split <;> omega
  have ih := fun m (hm : min n x.size = m) => specFlush_l en sh lo h n hn d (x.extract m x.size) (r ++ [65533]) (l ++ [(m : Int)]) (by rw [ByteArray.size_extract]; omega) (by simp; omega) (by simp; omega)
  have one : min n x.size = 1 → Ev (fun k => spec_l2Flush.l0 k (r ++ [65533]) (l ++ [1]) (x.extract 1 x.size) en sh lo h) (en, sh, lo, (⟨#[]⟩ : ByteArray), r ++ List.replicate ((((min n x.size : Nat) : Int) :: flushL n d (x.size - min n x.size))).length 65533, l ++ (((min n x.size : Nat) : Int) :: flushL n d (x.size - min n x.size))) := fun e => by
   have := ih 1 e
   rw [ByteArray.size_extract, Nat.min_self] at this
   rw [e]
   simpa [List.replicate_succ] using this
  have two : min n x.size = 2 → Ev (fun k => spec_l2Flush.l0 k (r ++ [65533]) (l ++ [2]) (x.extract 2 x.size) en sh lo h) (en, sh, lo, (⟨#[]⟩ : ByteArray), r ++ List.replicate ((((min n x.size : Nat) : Int) :: flushL n d (x.size - min n x.size))).length 65533, l ++ (((min n x.size : Nat) : Int) :: flushL n d (x.size - min n x.size))) := fun e => by
   have := ih 2 e
   rw [ByteArray.size_extract, Nat.min_self] at this
   rw [e]
   simpa [List.replicate_succ] using this
  by_cases c : en = 2 ∨ en = 3
  ·rw [if_pos c] at hn
   rw [decide_eq_true c]
   refine Ev.pos rfl ?_
   by_cases c2 : x.size > 1
   ·exact Ev.pos (by omega) (Ev.pos (by omega) (Ev.pos (by omega) (Ev.pos (by omega) (two (by omega)))))
   ·exact Ev.neg (by omega) (Ev.pos (by omega) (Ev.pos (by omega) (Ev.pos (by omega) (one (by omega)))))
  ·rw [if_neg c] at hn
   rw [decide_eq_false c]
   exact Ev.neg (by simp) (Ev.pos (by omega) (Ev.pos (by omega) (Ev.pos (by omega) (one (by omega)))))
theorem specFlush (en sh lo : Int) (x : ByteArray) (hx : x.size ≤ 10000000) : Ev (fun k => spec_l2Flush.f k en sh lo x) (en, sh, lo, (⟨#[]⟩ : ByteArray), List.replicate (flushL (if en = 2 ∨ en = 3 then 2 else 1) x.size x.size).length 65533, flushL (if en = 2 ∨ en = 3 then 2 else 1) x.size x.size) := by
 unfold spec_l2Flush.f
 have := specFlush_l en sh lo x _ rfl x.size x [] [] (Nat.le_refl _) (by simp; omega) (by simp; omega)
 simpa using this
theorem flushL_sum (n : Nat) (hn : 1 ≤ n) : ∀ (d m : Nat), m ≤ d → sumI (flushL n d m) = (m : Int)
 | 0, m, h => by
  have : m = 0 := by omega
  subst this
  rfl
 | d + 1, m, h => by
  unfold flushL
  by_cases c : m = 0
  ·rw [if_pos c, c]
   rfl
  ·rw [if_neg c]
   have := flushL_sum n hn d (m - min n m) (by omega)
   simp only [sumI, this]
   omega
end Go.Proofs.YtliafedmhgkciaaDoor.Pure
