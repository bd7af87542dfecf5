/- The program's DecodeAll answers as the reference's, for every code and all bytes: no condition. -/
import Derived.Test.YtpmdecdomfoaoaaDoorCP0
import Derived.Test.YtpmdecdomfoaoaaDoorC0
import Derived.Test.YtpmdecdomfoaoaaDoorC1
import Derived.Test.YtpmdecdomfoaoaaDoorC5
import Derived.Test.YtpmdecdomfoaoaaDoorC6
import Derived.Test.YtpmdecdomfoaoaaDoorCStFnExactDecodeAll
import Derived.Test.YtpmdecdomfoaoaaDoorCFeedD
import Derived.Test.YtpmdecdomfoaoaaDoorCMark0
import Derived.Test.YtpmdecdomfoaoaaDoorCBase
set_option linter.unusedVariables false
set_option linter.unusedSimpArgs false
namespace Go.Proofs.YtpmdecdomfoaoaaDoor.Pure
open Go.RowKit Go.Proofs.YtpmdecdomfoaoaaDoor.P Go.Proofs.YtpmdecdomfoaoaaDoorW.PrintWords
def flushL (n : Nat) : Nat → Nat → List Int
 | 0, _ => []
 | d + 1, m => if m = 0 then [] else ((min n m : Nat) : Int) :: flushL n d (m - min n m)
theorem flushL_le (n : Nat) : ∀ (d m : Nat), (flushL n d m).length ≤ d
 | 0, m => by simp [flushL]
 | d + 1, m => by
  unfold flushL
  split
  ·simp
  ·have := flushL_le n d (m - min n m)
   simp only [List.length_cons]
   omega
theorem implFlush_l (en sh lo : Int) (n : Nat) (hn : 1 ≤ n) : ∀ (d : Nat) (x : ByteArray) (r l : List Int), x.size ≤ d → r.length + d ≤ 100000000 → l.length + d ≤ 100000000 →
  Ev (fun k => impl_Decoder_flush.l0 k r l (n : Int) en sh lo x) (r ++ List.replicate (flushL n d x.size).length 65533, l ++ flushL n d x.size, en, sh, lo, (⟨#[]⟩ : ByteArray))
 | 0, x, r, l, hd, b1, b2 => by
  have e := nil_size x (by omega)
  subst e
  refine Ev.step (fun k => impl_Decoder_flush.l0.eq_2 ..) (Ev.pos ((nil_iff _).mpr rfl) (Ev.some' ?_))
  simp [flushL]
 | d + 1, x, r, l, hd, b1, b2 => by
  refine Ev.step (fun k => impl_Decoder_flush.l0.eq_2 ..) ?_
  unfold flushL
  by_cases h0 : x.size = 0
  ·have e := nil_size x h0
   subst e
   refine Ev.pos ((nil_iff _).mpr rfl) (Ev.some' ?_)
   simp <;> rfl
  have em : mn (n : Int) (x.size : Int) = ((min n x.size : Nat) : Int) := by unfold mn; split <;> omega
  refine Ev.neg (fun hh => h0 ((nil_iff x).mp hh)) (Ev.pos (by omega) (Ev.pos (by omega) ?_))
  rw [em]
  refine Ev.pos (by omega) (Ev.pos (by omega) ?_)
  rw [if_neg h0, Int.toNat_natCast]
  have ih := implFlush_l en sh lo n hn d (x.extract (min n x.size) x.size) (r ++ [65533]) (l ++ [((min n x.size : Nat) : Int)]) (by rw [ByteArray.size_extract]; omega) (by simp; omega) (by simp; omega)
  rw [ByteArray.size_extract, Nat.min_self] at ih
  simpa [List.replicate_succ] using ih
theorem implFlush (en sh lo : Int) (x : ByteArray) (hx : x.size ≤ 10000000) : Ev (fun k => impl_Decoder_flush.f k en sh lo x) (List.replicate (flushL (if en = 2 ∨ en = 3 then 2 else 1) x.size x.size).length 65533, flushL (if en = 2 ∨ en = 3 then 2 else 1) x.size x.size, en, sh, lo, (⟨#[]⟩ : ByteArray)) := by
 unfold impl_Decoder_flush.f
 refine Ev.bind0 rfl (Ev.bind0 rfl (Ev.bind0 (implUnits en) ?_))
 by_cases h : en = 2 ∨ en = 3
 ·rw [decide_eq_true h, if_pos h]
  have := implFlush_l en sh lo 2 (by omega) x.size x [] [] (Nat.le_refl _) (by simp; omega) (by simp; omega)
  exact Ev.pos rfl (Ev.step (fun k => impl_Decoder_flush.j0.eq_2 ..) (by simpa using this))
 ·rw [decide_eq_false h, if_neg h]
  have := implFlush_l en sh lo 1 (by omega) x.size x [] [] (Nat.le_refl _) (by simp; omega) (by simp; omega)
  exact Ev.neg (by simp) (Ev.step (fun k => impl_Decoder_flush.j0.eq_2 ..) (by simpa using this))
theorem specFlush_l (en sh lo : Int) (h : ByteArray) (n : Nat) (hn : n = if en = 2 ∨ en = 3 then 2 else 1) : ∀ (d : Nat) (x : ByteArray) (r l : List Int), x.size ≤ d → r.length + d ≤ 100000000 → l.length + d ≤ 100000000 →
  Ev (fun k => spec_l2Flush.l0 k r l x en sh lo h) (en, sh, lo, (⟨#[]⟩ : ByteArray), r ++ List.replicate (flushL n d x.size).length 65533, l ++ flushL n d x.size)
 | 0, x, r, l, hd, b1, b2 => by
  have e := nil_size x (by omega)
  subst e
  refine Ev.step (fun k => spec_l2Flush.l0.eq_2 ..) (Ev.pos ((nil_iff _).mpr rfl) (Ev.some' ?_))
  simp [flushL]
 | d + 1, x, r, l, hd, b1, b2 => by
  refine Ev.step (fun k => spec_l2Flush.l0.eq_2 ..) ?_
  unfold flushL
  by_cases h0 : x.size = 0
  ·have e := nil_size x h0
   subst e
   refine Ev.pos ((nil_iff _).mpr rfl) (Ev.some' ?_)
   simp <;> rfl
  refine Ev.neg (fun hh => h0 ((nil_iff x).mp hh)) (Ev.bind0 (specUnits en) ?_)
  rw [if_neg h0]
  have hn1 : 1 ≤ n := by rw [hn]; split <;> omega
  have ih := fun m (hm : min n x.size = m) => specFlush_l en sh lo h n hn d (x.extract m x.size) (r ++ [65533]) (l ++ [(m : Int)]) (by rw [ByteArray.size_extract]; omega) (by simp; omega) (by simp; omega)
  have one : min n x.size = 1 → Ev (fun k => spec_l2Flush.l0 k (r ++ [65533]) (l ++ [1]) (x.extract 1 x.size) en sh lo h) (en, sh, lo, (⟨#[]⟩ : ByteArray), r ++ List.replicate ((((min n x.size : Nat) : Int) :: flushL n d (x.size - min n x.size))).length 65533, l ++ (((min n x.size : Nat) : Int) :: flushL n d (x.size - min n x.size))) := fun e => by
   have := ih 1 e
   rw [ByteArray.size_extract, Nat.min_self] at this
   rw [e]
   simpa [List.replicate_succ] using this
  have two : min n x.size = 2 → Ev (fun k => spec_l2Flush.l0 k (r ++ [65533]) (l ++ [2]) (x.extract 2 x.size) en sh lo h) (en, sh, lo, (⟨#[]⟩ : ByteArray), r ++ List.replicate ((((min n x.size : Nat) : Int) :: flushL n d (x.size - min n x.size))).length 65533, l ++ (((min n x.size : Nat) : Int) :: flushL n d (x.size - min n x.size))) := fun e => by
   have := ih 2 e
   rw [ByteArray.size_extract, Nat.min_self] at this
   rw [e]
   simpa [List.replicate_succ] using this
  by_cases c : en = 2 ∨ en = 3
  ·rw [if_pos c] at hn
   rw [decide_eq_true c]
   refine Ev.pos rfl ?_
   by_cases c2 : x.size > 1
   ·exact Ev.pos (by omega) (Ev.pos (by omega) (Ev.pos (by omega) (Ev.pos (by omega) (two (by omega)))))
   ·exact Ev.neg (by omega) (Ev.pos (by omega) (Ev.pos (by omega) (Ev.pos (by omega) (one (by omega)))))
  ·rw [if_neg c] at hn
   rw [decide_eq_false c]
   exact Ev.neg (by simp) (Ev.pos (by omega) (Ev.pos (by omega) (Ev.pos (by omega) (one (by omega)))))
theorem specFlush (en sh lo : Int) (x : ByteArray) (hx : x.size ≤ 10000000) : Ev (fun k => spec_l2Flush.f k en sh lo x) (en, sh, lo, (⟨#[]⟩ : ByteArray), List.replicate (flushL (if en = 2 ∨ en = 3 then 2 else 1) x.size x.size).length 65533, flushL (if en = 2 ∨ en = 3 then 2 else 1) x.size x.size) := by
 unfold spec_l2Flush.f
 have := specFlush_l en sh lo x _ rfl x.size x [] [] (Nat.le_refl _) (by simp; omega) (by simp; omega)
 simpa using this
abbrev DA := List Int × List Int × Bool
def daR (en : Int) (s : ByteArray) : DA :=
 if 1 ≤ en ∧ en ≤ 5 ∧ s.size ≤ 1000 then
  ((feedR en 0 0 (⟨#[]⟩ : ByteArray) s).2.2.2.1 ++ List.replicate (flushL (if en = 2 ∨ en = 3 then 2 else 1) (feedR en 0 0 (⟨#[]⟩ : ByteArray) s).2.2.1.size (feedR en 0 0 (⟨#[]⟩ : ByteArray) s).2.2.1.size).length 65533,
   (feedR en 0 0 (⟨#[]⟩ : ByteArray) s).2.2.2.2 ++ flushL (if en = 2 ∨ en = 3 then 2 else 1) (feedR en 0 0 (⟨#[]⟩ : ByteArray) s).2.2.1.size (feedR en 0 0 (⟨#[]⟩ : ByteArray) s).2.2.1.size, true)
 else ([], [], false)
theorem feedR_held (en : Int) (s : ByteArray) : (feedR en 0 0 (⟨#[]⟩ : ByteArray) s).2.2.1.size ≤ s.size := by
 unfold feedR
 split
 ·exact Nat.zero_le _
 ·have := (feedM_len en ((⟨#[]⟩ : ByteArray) ++ s).size ((⟨#[]⟩ : ByteArray) ++ s) [] []).2.2
  have e : ((⟨#[]⟩ : ByteArray) ++ s).size = (⟨#[]⟩ : ByteArray).size + s.size := ByteArray.size_append ..
  have e2 : (⟨#[]⟩ : ByteArray).size = 0 := rfl
  simp only []
  omega
theorem specDA (en : Int) (s : ByteArray) : Ev (fun k => spec_DecodeAll.f k en s) (daR en s) := by
 unfold spec_DecodeAll.f
 have hc : spec_l2Code.f en = some (inB en 1 5) := by unfold spec_l2Code.f; rw [l1In_eq]; rfl
 refine Ev.bind0 hc ?_
 by_cases h1 : inB en 1 5 = true
 ·have h1' : 1 ≤ en ∧ en ≤ 5 := by unfold inB at h1; simpa using h1
  refine Ev.pos h1 (Ev.bind0 (a := decide ((s.size : Int) ≤ 1000)) rfl ?_)
  by_cases hs : s.size ≤ 1000
  ·rw [decide_eq_true (by omega)]
   have hl := feedR_len en 0 0 (⟨#[]⟩ : ByteArray) s
   have hh := feedR_held en s
   have hf := flushL_le (if en = 2 ∨ en = 3 then 2 else 1) (feedR en 0 0 (⟨#[]⟩ : ByteArray) s).2.2.1.size (feedR en 0 0 (⟨#[]⟩ : ByteArray) s).2.2.1.size
   have e2 : (⟨#[]⟩ : ByteArray).size = 0 := rfl
   refine Ev.pos rfl (Ev.bind (a := ((daR en s).1, (daR en s).2.1)) ?_ (Ev.some' ?_))
   ·unfold spec_l2Decode.f daR
    rw [if_pos (show 1 ≤ en ∧ en ≤ 5 ∧ s.size ≤ 1000 from ⟨h1'.1, h1'.2, hs⟩)]
    refine Ev.bind (specFeed en 0 0 (⟨#[]⟩ : ByteArray) s (by omega) (by omega) (.inl rfl) (by omega) (by omega)) (Ev.bind (specFlush _ _ _ _ (by simp only []; omega)) (Ev.pos ?_ (Ev.pos ?_ (Ev.now _))))
    ·simp only [List.length_replicate]
     omega
    ·simp only []
     omega
   ·unfold daR
    rw [if_pos (show 1 ≤ en ∧ en ≤ 5 ∧ s.size ≤ 1000 from ⟨h1'.1, h1'.2, hs⟩)]
  ·rw [decide_eq_false (by omega)]
   exact Ev.neg (by simp) (Ev.some' (by unfold daR; rw [if_neg (fun x => hs x.2.2)]))
 ·refine Ev.neg h1 (Ev.some' ?_)
  unfold daR
  rw [if_neg (fun x => h1 (by unfold inB; simp; omega))]
theorem implDA (en : Int) (s : ByteArray) : Ev (fun k => impl_DecodeAll.f k en s) (daR en s) := by
 unfold impl_DecodeAll.f
 have hc : impl_isCode.f en = some (inB en 1 5) := by unfold impl_isCode.f; rw [inRange_eq]; rfl
 refine Ev.bind0 hc ?_
 have jt : ¬ (1 ≤ en ∧ en ≤ 5 ∧ s.size ≤ 1000) → Ev (fun k => impl_DecodeAll.j0 k en s true) (daR en s) := fun c =>
  Ev.step (fun k => impl_DecodeAll.j0.eq_2 ..) (Ev.pos rfl (Ev.some' (by unfold daR; rw [if_neg c])))
 by_cases h1 : inB en 1 5 = true
 ·have h1' : 1 ≤ en ∧ en ≤ 5 := by unfold inB at h1; simpa using h1
  refine Ev.pos h1 ?_
  by_cases hs : s.size ≤ 1000
  ·rw [decide_eq_false (by omega)]
   have hl := feedR_len en 0 0 (⟨#[]⟩ : ByteArray) s
   have hh := feedR_held en s
   have hf := flushL_le (if en = 2 ∨ en = 3 then 2 else 1) (feedR en 0 0 (⟨#[]⟩ : ByteArray) s).2.2.1.size (feedR en 0 0 (⟨#[]⟩ : ByteArray) s).2.2.1.size
   have e2 : (⟨#[]⟩ : ByteArray).size = 0 := rfl
   refine Ev.step (fun k => impl_DecodeAll.j0.eq_2 ..) (Ev.neg (by simp) (Ev.bind (implFeed en 0 0 (⟨#[]⟩ : ByteArray) s (by omega) (by omega) (by omega) (by omega) (fun _ => rfl) (fun _ => rfl)) (Ev.bind (implFlush _ _ _ _ (by simp only []; omega)) (Ev.pos ?_ (Ev.pos ?_ (Ev.some' ?_))))))
   ·simp only [List.length_replicate]
    omega
   ·simp only []
    omega
   ·unfold daR
    rw [if_pos (show 1 ≤ en ∧ en ≤ 5 ∧ s.size ≤ 1000 from ⟨h1'.1, h1'.2, hs⟩)]
  ·rw [decide_eq_true (by omega)]
   exact jt (fun x => hs x.2.2)
 ·exact Ev.neg h1 (jt (fun x => h1 (by unfold inB; simp; omega)))
theorem daR_len (en : Int) (s : ByteArray) : (daR en s).1.length ≤ 1000000 ∧ (daR en s).2.1.length ≤ 1000000 := by
 have hl := feedR_len en 0 0 (⟨#[]⟩ : ByteArray) s
 have hh := feedR_held en s
 have hf := flushL_le (if en = 2 ∨ en = 3 then 2 else 1) (feedR en 0 0 (⟨#[]⟩ : ByteArray) s).2.2.1.size (feedR en 0 0 (⟨#[]⟩ : ByteArray) s).2.2.1.size
 have e2 : (⟨#[]⟩ : ByteArray).size = 0 := rfl
 unfold daR
 split
 ·simp only [List.length_append, List.length_replicate]
  omega
 ·simp
theorem FnExactDecodeAll : FnExactDecodeAll_Pure := by
 intro en s _ w
 refine Ev.get (g := fun k => laws_FnExactDecodeAll.f k en s) ?_
 unfold laws_FnExactDecodeAll.f
 by_cases c0 : (s.size : Int) > 1048576
 ·exact Ev.pos c0 (Ev.now _)
 have sp := specDA en s
 have im := implDA en s
 have hl := daR_len en s
 refine Ev.neg c0 (Ev.bind sp (Ev.bind im ?_))
 generalize daR en s = x at *
 obtain ⟨r, l, z⟩ := x
 dsimp only at hl ⊢
 have er := eqIntS_self r (by omega)
 have el := eqIntS_self l (by omega)
 have m1 := markIntS r 1 (by omega) (by omega) (by omega)
 have m2 := markIntS l (1 + (r.length : Int)) (by omega) (by omega) (by omega)
 have h1 := heldIntS r.length 1 (by omega) (by omega) (by omega)
 have h2 := heldIntS l.length (1 + (r.length : Int)) (by omega) (by omega) (by omega)
 refine Ev.bind er (Ev.pos rfl (Ev.bind el (Ev.pos rfl (Ev.pos (by first | rfl | trivial) (Ev.bind m1 (Ev.bind m2 (Ev.bind h1 (Ev.neg (by omega) (Ev.bind h2 (Ev.neg (by omega) (Ev.pos rfl (Ev.bind im ?_))))))))))))
 exact Ev.bind er (Ev.pos rfl (Ev.bind el (Ev.pos rfl (Ev.pos (by first | rfl | trivial) (Ev.bind h1 (Ev.neg (by omega) (Ev.bind h2 (Ev.neg (by omega) (Ev.pos rfl (Ev.now _)))))))))) 
end Go.Proofs.YtpmdecdomfoaoaaDoor.Pure
