/- Plain laws of decoders: what feeding makes of bytes, in the program and in the reference. -/
import Derived.Test.YtliafedmhgkciaaDoorCP0
import Derived.Test.YtliafedmhgkciaaDoorC0
import Derived.Test.YtliafedmhgkciaaDoorC1
import Derived.Test.YtliafedmhgkciaaDoorC4
import Derived.Test.YtliafedmhgkciaaDoorCDec
set_option linter.unusedVariables false
set_option linter.unusedSimpArgs false
namespace Go.Proofs.YtliafedmhgkciaaDoor.Pure
open Go.RowKit Go.Proofs.YtliafedmhgkciaaDoor.P Go.Proofs.YtliafedmhgkciaaDoorW.PrintWords
theorem Ev.fn {α : Type} {f g : Nat → Option α} {r : α} (h : Ev f r) (e : f = g) : Ev g r := e ▸ h
def shI (sh b : Int) : Int := if b < 32 then b else if b < 128 then (if sh = 0 then b else if b ≤ 126 then 12320 + b else 65533) else 65533
theorem specShifted (sh b : Int) (h : sh = 0 ∨ sh = 1) (h0 : 0 ≤ b) (h1 : b < 256) : Ev (fun k => spec_l2Shifted.f k sh b) (shI sh b) := by
 unfold spec_l2Shifted.f shI
 by_cases c1 : b < 32
 ·rw [if_pos c1]
  exact Ev.pos c1 (Ev.step (fun k => spec_l2Shifted.j0.eq_2 ..) (Ev.pos rfl (Ev.now _)))
 rw [if_neg c1]
 refine Ev.neg c1 ?_
 have e : wrap64 (wrap64 (12352 + b) - 32) = 12320 + b := by rw [w64 (x := 12352 + b) (by omega) (by omega), w64 (by omega) (by omega)]; omega
 by_cases c2 : b < 128
 ·rw [if_pos c2]
  refine Ev.pos c2 (Ev.step (fun k => spec_l2Shifted.j0.eq_2 ..) ?_)
  by_cases c3 : sh = 0
  ·rw [if_pos c3]
   exact Ev.pos (by simpa using c3) (Ev.now _)
  ·rw [if_neg c3]
   refine Ev.neg (by simpa using c3) (Ev.pos (by omega) ?_)
   by_cases c4 : b ≤ 126
   ·exact Ev.pos c4 (Ev.some' (by rw [e, if_pos c4]))
   ·exact Ev.neg c4 (Ev.some' (by rw [if_neg c4]))
 ·rw [if_neg c2]
  refine Ev.neg c2 (Ev.step (fun k => spec_l2Shifted.j0.eq_2 ..) (Ev.neg (by simp) ?_))
  by_cases c3 : sh = 1
  ·exact Ev.pos c3 (Ev.neg (by omega) (Ev.now _))
  ·exact Ev.neg c3 (Ev.now _)
theorem implShifted (en sh lo : Int) (s : ByteArray) (b : Int) (h0 : 0 ≤ b) (h1 : b < 256) : Ev (fun k => impl_Decoder_shifted.f k en sh lo s b) (shI sh b, en, sh, lo, s) := by
 unfold impl_Decoder_shifted.f shI
 by_cases c1 : b < 32
 ·rw [if_pos c1]
  exact Ev.pos c1 (Ev.step (fun k => impl_Decoder_shifted.j0.eq_2 ..) (Ev.pos rfl (Ev.now _)))
 rw [if_neg c1]
 refine Ev.neg c1 ?_
 have e : wrap64 (wrap64 (12352 + b) - 32) = 12320 + b := by rw [w64 (x := 12352 + b) (by omega) (by omega), w64 (by omega) (by omega)]; omega
 by_cases c2 : b < 128
 ·rw [if_pos c2]
  refine Ev.pos c2 (Ev.step (fun k => impl_Decoder_shifted.j0.eq_2 ..) ?_)
  by_cases c3 : sh = 0
  ·rw [if_pos c3]
   exact Ev.pos (by simpa using c3) (Ev.now _)
  ·rw [if_neg c3]
   refine Ev.neg (by simpa using c3) ?_
   by_cases c4 : b ≤ 126
   ·exact Ev.pos c4 (Ev.some' (by rw [e, if_pos c4]))
   ·exact Ev.neg c4 (Ev.some' (by rw [if_neg c4]))
 ·rw [if_neg c2]
  exact Ev.neg c2 (Ev.step (fun k => impl_Decoder_shifted.j0.eq_2 ..) (Ev.neg (by simp) (Ev.neg (by omega) (Ev.now _))))
def stepsL (en : Int) : List Int → Int → Int → List Int → List Int → Int × Int × List Int × List Int
 | [], sh, lo, r, l => (sh, lo, r, l)
 | b :: t, sh, lo, r, l => if en = 5 ∧ (b = 14 ∨ b = 15) then stepsL en t (15 - b) (lo + 1) r l else stepsL en t sh 0 (r ++ [if en = 5 then shI sh b else b]) (l ++ [lo + 1])
theorem stepsL_shift (en : Int) : ∀ (t : List Int) (sh lo : Int) (r l : List Int), (sh = 0 ∨ sh = 1) → 0 ≤ lo → ((stepsL en t sh lo r l).1 = 0 ∨ (stepsL en t sh lo r l).1 = 1) ∧ 0 ≤ (stepsL en t sh lo r l).2.1
 | [], sh, lo, r, l, h, h2 => ⟨h, h2⟩
 | b :: t, sh, lo, r, l, h, h2 => by
  unfold stepsL
  split
  ·rename_i c
   exact stepsL_shift en t _ _ _ _ (by omega) (by omega)
  ·exact stepsL_shift en t _ _ _ _ h (by omega)
theorem stepsL_plain (en : Int) (he : en ≠ 5) : ∀ (t : List Int) (sh : Int) (r l : List Int), (stepsL en t sh 0 r l).1 = sh ∧ (stepsL en t sh 0 r l).2.1 = 0
 | [], sh, r, l => ⟨rfl, rfl⟩
 | b :: t, sh, r, l => by
  unfold stepsL
  rw [if_neg (fun h => he h.1)]
  exact stepsL_plain en he t sh _ _
theorem stepsL_len (en : Int) : ∀ (t : List Int) (sh lo : Int) (r l : List Int), (stepsL en t sh lo r l).2.2.1.length ≤ r.length + t.length ∧ (stepsL en t sh lo r l).2.2.2.length ≤ l.length + t.length
 | [], sh, lo, r, l => by simp [stepsL]
 | b :: t, sh, lo, r, l => by
  unfold stepsL
  split
  ·have := stepsL_len en t (15 - b) (lo + 1) r l
   simp only [List.length_cons]
   omega
  ·have := stepsL_len en t sh 0 (r ++ [if en = 5 then shI sh b else b]) (l ++ [lo + 1])
   simp only [List.length_cons, List.length_append, List.length_nil] at *
   omega
theorem specFeed_l0 (s h : ByteArray) (en : Int) (hs : s.size ≤ 10000000) : ∀ (d i : Nat) (sh lo : Int) (r l : List Int), i + d = s.size → (sh = 0 ∨ sh = 1) → 0 ≤ lo → lo + d ≤ 100000000 → r.length + d ≤ 100000000 → l.length + d ≤ 100000000 →
  Ev (fun k => spec_l2Feed.l0 k s r l (i : Int) en sh lo h) (en, (stepsL en ((bytesOf s).drop i) sh lo r l).1, (stepsL en ((bytesOf s).drop i) sh lo r l).2.1, h, (stepsL en ((bytesOf s).drop i) sh lo r l).2.2.1, (stepsL en ((bytesOf s).drop i) sh lo r l).2.2.2)
 | 0, i, sh, lo, r, l, hd, hsh, hlo, b1, b2, b3 => by
  rw [List.drop_eq_nil_of_le (by rw [bytesOf_length]; omega)]
  exact Ev.step (fun k => spec_l2Feed.l0.eq_2 ..) (Ev.neg (by omega) (Ev.now _))
 | d + 1, i, sh, lo, r, l, hd, hsh, hlo, b1, b2, b3 => by
  have hi : i < (bytesOf s).length := by rw [bytesOf_length]; omega
  have hb := bt_range s (i : Int)
  have hg := bytesOf_get s i (by omega)
  rw [drop_cons (bytesOf s) hi, hg]
  have ew : wrap64 (bt s (i : Int)) = bt s (i : Int) := w64 (by omega) (by omega)
  have el : wrap64 (lo + 1) = lo + 1 := w64 (by omega) (by omega)
  refine Ev.step (fun k => spec_l2Feed.l0.eq_2 ..) (Ev.pos (by omega) (Ev.pos (by omega) ?_))
  rw [ew, el]
  unfold stepsL
  have jt : (bt s (i : Int) = 14 ∨ bt s (i : Int) = 15) → en = 5 → Ev (fun k => spec_l2Feed.j2 k s r l (i : Int) (bt s (i : Int)) true en sh (lo + 1) h) (en, (stepsL en ((bytesOf s).drop (i + 1)) (15 - bt s (i : Int)) (lo + 1) r l).1, (stepsL en ((bytesOf s).drop (i + 1)) (15 - bt s (i : Int)) (lo + 1) r l).2.1, h, (stepsL en ((bytesOf s).drop (i + 1)) (15 - bt s (i : Int)) (lo + 1) r l).2.2.1, (stepsL en ((bytesOf s).drop (i + 1)) (15 - bt s (i : Int)) (lo + 1) r l).2.2.2) := fun c he => by
   refine Ev.step (fun k => spec_l2Feed.j2.eq_2 ..) (Ev.pos rfl ?_)
   rw [w64s (by omega), w64 (x := 15 - bt s (i : Int)) (by omega) (by omega)]
   exact specFeed_l0 s h en hs d (i + 1) _ _ r l (by omega) (by omega) (by omega) (by omega) (by omega) (by omega)
  have jf : Ev (fun k => spec_l2Feed.j2 k s r l (i : Int) (bt s (i : Int)) false en sh (lo + 1) h) (en, (stepsL en ((bytesOf s).drop (i + 1)) sh 0 (r ++ [if en = 5 then shI sh (bt s (i : Int)) else bt s (i : Int)]) (l ++ [lo + 1])).1, (stepsL en ((bytesOf s).drop (i + 1)) sh 0 (r ++ [if en = 5 then shI sh (bt s (i : Int)) else bt s (i : Int)]) (l ++ [lo + 1])).2.1, h, (stepsL en ((bytesOf s).drop (i + 1)) sh 0 (r ++ [if en = 5 then shI sh (bt s (i : Int)) else bt s (i : Int)]) (l ++ [lo + 1])).2.2.1, (stepsL en ((bytesOf s).drop (i + 1)) sh 0 (r ++ [if en = 5 then shI sh (bt s (i : Int)) else bt s (i : Int)]) (l ++ [lo + 1])).2.2.2) := by
   have ih := fun v => specFeed_l0 s h en hs d (i + 1) sh 0 (r ++ [v]) (l ++ [lo + 1]) (by omega) hsh (by omega) (by omega) (by simp; omega) (by simp; omega)
   refine Ev.step (fun k => spec_l2Feed.j2.eq_2 ..) (Ev.neg (by simp) ?_)
   by_cases he : en = 5
   ·have := ih (shI sh (bt s (i : Int)))
    refine Ev.pos he (Ev.bind (specShifted sh (bt s (i : Int)) hsh hb.1 (by omega)) (Ev.pos (by omega) (Ev.pos (by omega) ?_)))
    rw [w64s (by omega), if_pos he]
    exact this
   ·have := ih (bt s (i : Int))
    refine Ev.neg he (Ev.pos (by omega) (Ev.pos (by omega) ?_))
    rw [w64s (by omega), if_neg he]
    exact this
  by_cases he : en = 5
  ·refine Ev.pos he ?_
   by_cases c1 : bt s (i : Int) = 14
   ·rw [if_pos ⟨he, .inl c1⟩]
    exact Ev.pos c1 (jt (.inl c1) he)
   ·refine Ev.neg c1 ?_
    by_cases c2 : bt s (i : Int) = 15
    ·rw [if_pos ⟨he, .inr c2⟩, show ((bt s (i : Int)) == 15) = true from beq_iff_eq.2 c2]
     exact jt (.inr c2) he
    ·rw [if_neg (fun h => by omega), show ((bt s (i : Int)) == 15) = false from beq_eq_false_iff_ne.2 c2]
     exact jf
  ·rw [if_neg (fun h => he h.1)]
   exact Ev.neg he jf
theorem bytes_cons (x : ByteArray) (b : Int) (t : List Int) (h : bytesOf x = b :: t) : bt x 0 = b ∧ 0 < x.size ∧ bytesOf (x.extract 1 x.size) = t ∧ x.size = t.length + 1 := by
 have hl := bytesOf_length x
 rw [h] at hl
 simp only [List.length_cons] at hl
 have hg := bytesOf_get x 0 (by omega)
 refine ⟨?_, by omega, ?_, by omega⟩
 ·have : (bytesOf x)[0]'(by rw [h]; simp) = b := by simp only [h, List.getElem_cons_zero]
  rw [← this]
  exact hg.symm
 ·rw [bytesOf_extract, h, List.take_of_length_le (by simp; omega)]
  rfl
theorem size_nil (x : ByteArray) (h : bytesOf x = []) : x.size = 0 := by
 have hl := bytesOf_length x
 rw [h] at hl
 exact hl.symm
theorem nil_size (x : ByteArray) (h : x.size = 0) : x = (⟨#[]⟩ : ByteArray) := by
 apply bytesOf_inj
 have : bytesOf x = [] := by rw [← List.length_eq_zero_iff, bytesOf_length, h]
 rw [this]
 rfl
theorem implFeed_l0 (h : ByteArray) (en : Int) (hen : en = 4 ∨ en = 5) : ∀ (L : List Int) (x : ByteArray) (sh lo : Int) (r l : List Int), bytesOf x = L → 0 ≤ lo → lo + L.length ≤ 100000000 → r.length + L.length ≤ 100000000 → l.length + L.length ≤ 100000000 →
  Ev (fun k => impl_Decoder_feed.l0 k r l x en sh lo h) ((stepsL en L sh lo r l).2.2.1, (stepsL en L sh lo r l).2.2.2, en, (stepsL en L sh lo r l).1, (stepsL en L sh lo r l).2.1, (⟨#[]⟩ : ByteArray))
 | [], x, sh, lo, r, l, hx, hlo, b1, b2, b3 => by
  have e := nil_size x (size_nil x hx)
  subst e
  exact Ev.step (fun k => impl_Decoder_feed.l0.eq_2 ..) (Ev.pos ((nil_iff _).mpr rfl) (Ev.now _))
 | b :: t, x, sh, lo, r, l, hx, hlo, b1, b2, b3 => by
  obtain ⟨e0, e1, e2, e3⟩ := bytes_cons x b t hx
  have hb := bt_range x 0
  simp only [List.length_cons] at b1 b2 b3
  have ew : wrap64 (bt x 0) = bt x 0 := w64 (by omega) (by omega)
  have el : wrap64 (lo + 1) = lo + 1 := w64 (by omega) (by omega)
  refine Ev.step (fun k => impl_Decoder_feed.l0.eq_2 ..) (Ev.neg (fun hh => by have := (nil_iff _).mp hh; omega) ?_)
  have jt : (b = 14 ∨ b = 15) → Ev (fun k => impl_Decoder_feed.j1 k r l x true en sh lo h) ((stepsL en t (15 - b) (lo + 1) r l).2.2.1, (stepsL en t (15 - b) (lo + 1) r l).2.2.2, en, (stepsL en t (15 - b) (lo + 1) r l).1, (stepsL en t (15 - b) (lo + 1) r l).2.1, (⟨#[]⟩ : ByteArray)) := fun c => by
   refine Ev.step (fun k => impl_Decoder_feed.j1.eq_2 ..) (Ev.pos rfl (Ev.pos (by omega) (Ev.pos (by omega) ?_)))
   rw [ew, el, e0, w64 (x := 15 - b) (by omega) (by omega)]
   exact implFeed_l0 h en hen t _ _ _ r l e2 (by omega) (by omega) (by omega) (by omega)
  have jf : Ev (fun k => impl_Decoder_feed.j1 k r l x false en sh lo h) ((stepsL en t sh 0 (r ++ [if en = 5 then shI sh b else b]) (l ++ [lo + 1])).2.2.1, (stepsL en t sh 0 (r ++ [if en = 5 then shI sh b else b]) (l ++ [lo + 1])).2.2.2, en, (stepsL en t sh 0 (r ++ [if en = 5 then shI sh b else b]) (l ++ [lo + 1])).1, (stepsL en t sh 0 (r ++ [if en = 5 then shI sh b else b]) (l ++ [lo + 1])).2.1, (⟨#[]⟩ : ByteArray)) := by
   refine Ev.step (fun k => impl_Decoder_feed.j1.eq_2 ..) (Ev.neg (by simp) ?_)
   have hn : Ev (fun k => impl_Decoder_next.f k en sh lo h x) (if en = 5 then shI sh b else b, 1, en, sh, lo, h) := by
    unfold impl_Decoder_next.f
    refine Ev.neg (by omega) ?_
    by_cases he : en = 4
    ·refine Ev.pos he (Ev.pos (by omega) (Ev.some' ?_))
     rw [ew, e0, if_neg (by omega)]
    ·refine Ev.neg he (Ev.pos (by omega) (Ev.pos (by omega) ?_))
     rw [ew, e0, if_pos (by omega)]
     exact Ev.bind (implShifted en sh lo h b (by omega) (by omega)) (Ev.now _)
   have el2 : wrap64 (1 + lo) = lo + 1 := by rw [w64 (by omega) (by omega)]; omega
   refine Ev.bind hn (Ev.neg (by simp) (Ev.bind0 rfl (Ev.pos (by simp; omega) (Ev.bind0 rfl (Ev.pos (by simp; omega) (Ev.pos (by simp) (Ev.pos (by simp; omega) ?_)))))))
   show Ev (fun k => impl_Decoder_feed.l0 k (r ++ [if en = 5 then shI sh b else b]) (l ++ [wrap64 (1 + lo)]) (x.extract ((1 : Int)).toNat x.size) en sh 0 h) _
   rw [el2]
   exact implFeed_l0 h en hen t _ _ _ _ _ e2 (by omega) (by omega) (by simp; omega) (by simp; omega)
  unfold stepsL
  by_cases he : en = 5
  ·refine Ev.pos he (Ev.pos (by omega) ?_)
   rw [e0]
   by_cases c1 : b = 14
   ·rw [if_pos ⟨he, .inl c1⟩]
    exact Ev.pos c1 (jt (.inl c1))
   ·refine Ev.neg c1 ?_
    by_cases c2 : b = 15
    ·rw [if_pos ⟨he, .inr c2⟩, show (b == 15) = true from beq_iff_eq.2 c2]
     exact jt (.inr c2)
    ·rw [if_neg (fun h => by omega), show (b == 15) = false from beq_eq_false_iff_ne.2 c2]
     exact jf
  ·rw [if_neg (fun h => he h.1)]
   exact Ev.neg he jf
def oneI (en : Int) (x : ByteArray) : Int × Int :=
 if en = 1 then (if begunB x = true then (0, 0) else decI x 0)
 else if x.size < 2 then (0, 0)
 else if inB (unitI en x) 55296 56319 = true then
  (if x.size < 4 then (0, 0) else if inB (unitI en (x.extract 2 x.size)) 56320 57343 = true then (65536 + (unitI en x - 55296) * 1024 + unitI en (x.extract 2 x.size) - 56320, 4) else (65533, 2))
 else if inB (unitI en x) 56320 57343 = true then (65533, 2) else (unitI en x, 2)
theorem unitI_range (en : Int) (x : ByteArray) : 0 ≤ unitI en x ∧ unitI en x < 65536 := by
 have r0 := bt_range x 0
 have r1 := bt_range x 1
 unfold unitI
 split <;> omega
theorem oneI_width (en : Int) (x : ByteArray) (hx : 0 < x.size) : 0 ≤ (oneI en x).2 ∧ (oneI en x).2 ≤ (x.size : Int) := by
 have := decI_width x 0 hx
 unfold oneI
 repeat' split
 all_goals (try simp only [])
 all_goals omega
theorem w64_pair (u v : Int) (h0 : 0 ≤ u) (h1 : u < 65536) (h2 : 0 ≤ v) (h3 : v < 65536) : wrap64 (wrap64 (wrap64 (65536 + wrap64 (wrap64 (u - 55296) * 1024)) + v) - 56320) = 65536 + (u - 55296) * 1024 + v - 56320 := by
 rw [w64 (x := u - 55296) (by omega) (by omega), w64 (x := (u - 55296) * 1024) (by omega) (by omega), w64 (x := 65536 + (u - 55296) * 1024) (by omega) (by omega), w64 (x := 65536 + (u - 55296) * 1024 + v) (by omega) (by omega), w64 (by omega) (by omega)]
theorem specOne (en : Int) (x : ByteArray) (hx : 0 < x.size) (hs : x.size ≤ 1000000000) : Ev (fun k => spec_l2One.f k en x) (oneI en x) := by
 unfold spec_l2One.f
 have u0 := unitI_range en x
 by_cases h1 : en = 1
 ·refine Ev.pos h1 (Ev.bind (specBegun x) ?_)
  by_cases hb : begunB x = true
  ·exact Ev.pos hb (Ev.some' (by unfold oneI; rw [if_pos h1, if_pos hb]))
  ·exact Ev.neg hb (Ev.bind (l1At_eq x 0 hx (by omega)) (Ev.some' (by unfold oneI; rw [if_pos h1, if_neg hb])))
 refine Ev.neg h1 ?_
 by_cases h2 : x.size < 2
 ·exact Ev.pos (by omega) (Ev.some' (by unfold oneI; rw [if_neg h1, if_pos h2]))
 have hlow : ∀ v, spec_l2Low.f v = some (inB v 56320 57343) := fun v => by unfold spec_l2Low.f; rw [l1In_eq]; rfl
 have hhigh : ∀ v, spec_l2High.f v = some (inB v 55296 56319) := fun v => by unfold spec_l2High.f; rw [l1In_eq]; rfl
 refine Ev.neg (by omega) (Ev.bind0 (specUnit en x (by omega)) (Ev.bind0 (hlow _) ?_))
 by_cases c1 : inB (unitI en x) 56320 57343 = true
 ·refine Ev.pos c1 (Ev.some' ?_)
  have c2 : ¬ inB (unitI en x) 55296 56319 = true := by unfold inB at c1 ⊢; simp at c1 ⊢; omega
  unfold oneI
  rw [if_neg h1, if_neg h2, if_neg c2, if_pos c1]
 refine Ev.neg c1 (Ev.bind0 (hhigh _) ?_)
 by_cases c2 : inB (unitI en x) 55296 56319 = true
 ·refine Ev.pos c2 ?_
  by_cases c3 : x.size < 4
  ·exact Ev.pos (by omega) (Ev.some' (by unfold oneI; rw [if_neg h1, if_neg h2, if_pos c2, if_pos c3]))
  refine Ev.neg (by omega) (Ev.pos (by omega) (Ev.bind0 (specUnit en _ (by rw [ByteArray.size_extract]; omega)) (Ev.bind0 (hlow _) ?_)))
  have u1 := unitI_range en (x.extract 2 x.size)
  by_cases c4 : inB (unitI en (x.extract 2 x.size)) 56320 57343 = true
  ·refine Ev.pos c4 (Ev.some' ?_)
   rw [w64_pair _ _ u0.1 u0.2 u1.1 u1.2]
   unfold oneI
   rw [if_neg h1, if_neg h2, if_pos c2, if_neg c3, if_pos c4]
  ·refine Ev.neg c4 (Ev.some' ?_)
   unfold oneI
   rw [if_neg h1, if_neg h2, if_pos c2, if_neg c3, if_neg c4]
 ·refine Ev.neg c2 (Ev.some' ?_)
  unfold oneI
  rw [if_neg h1, if_neg h2, if_neg c2, if_neg c1]
theorem implOne (en sh lo : Int) (h x : ByteArray) (he : en ≠ 4) (he5 : en ≠ 5) (hx : 0 < x.size) (hs : x.size ≤ 1000000000) : Ev (fun k => impl_Decoder_next.f k en sh lo h x) ((oneI en x).1, (oneI en x).2, en, sh, lo, h) := by
 unfold impl_Decoder_next.f
 have u0 := unitI_range en x
 by_cases h1 : en = 1
 ·refine Ev.pos h1 (Ev.bind0 (implIsBegun x) ?_)
  by_cases hb : begunB x = true
  ·exact Ev.pos hb (Ev.some' (by unfold oneI; rw [if_pos h1, if_pos hb]))
  ·refine Ev.neg hb (Ev.bind0 (a := decI x 0) ?_ (Ev.some' (by unfold oneI; rw [if_pos h1, if_neg hb])))
   have hd := decode_eq x 0 hx
   have hr := decI_rune x 0
   unfold impl_runeAt.f utf8_DecodeRuneInString.f Lib.decodeGo
   rw [if_neg (by omega), hd.1, hd.2, Option.bind_some]
   have : wrap64 (decI x 0).1 = (decI x 0).1 := by unfold runeB inB at hr; simp at hr; exact w64 (by omega) (by omega)
   rw [this]
 refine Ev.neg h1 (Ev.neg he (Ev.neg he5 ?_))
 by_cases h2 : x.size < 2
 ·exact Ev.pos (by omega) (Ev.some' (by unfold oneI; rw [if_neg h1, if_pos h2]))
 have hlow : ∀ v, impl_isLow.f v = some (inB v 56320 57343) := fun v => by unfold impl_isLow.f; rw [inRange_eq]; rfl
 have hhigh : ∀ v, impl_isHigh.f v = some (inB v 55296 56319) := fun v => by unfold impl_isHigh.f; rw [inRange_eq]; rfl
 refine Ev.neg (by omega) (Ev.bind0 (implUnit en x (by omega)) (Ev.bind0 (hhigh _) ?_))
 by_cases c2 : inB (unitI en x) 55296 56319 = true
 ·refine Ev.pos c2 (Ev.step (fun k => impl_Decoder_next.j0.eq_2 ..) ?_)
  by_cases c3 : x.size < 4
  ·exact Ev.pos (by simp; omega) (Ev.some' (by unfold oneI; rw [if_neg h1, if_neg h2, if_pos c2, if_pos c3]))
  refine Ev.neg (by simp; omega) (Ev.bind0 (hhigh _) (Ev.pos c2 (Ev.pos (by omega) (Ev.bind0 (implUnit en _ (by rw [ByteArray.size_extract]; omega)) (Ev.bind0 (hlow _) ?_)))))
  have u1 := unitI_range en (x.extract 2 x.size)
  by_cases c4 : inB (unitI en (x.extract 2 x.size)) 56320 57343 = true
  ·refine Ev.pos c4 (Ev.some' ?_)
   rw [w64_pair _ _ u0.1 u0.2 u1.1 u1.2]
   unfold oneI
   rw [if_neg h1, if_neg h2, if_pos c2, if_neg c3, if_pos c4]
  ·refine Ev.neg c4 (Ev.some' ?_)
   unfold oneI
   rw [if_neg h1, if_neg h2, if_pos c2, if_neg c3, if_neg c4]
 ·refine Ev.neg c2 (Ev.step (fun k => impl_Decoder_next.j0.eq_2 ..) (Ev.neg (by simp) (Ev.bind0 (hhigh _) (Ev.neg c2 (Ev.bind0 (hlow _) ?_)))))
  by_cases c1 : inB (unitI en x) 56320 57343 = true
  ·exact Ev.pos c1 (Ev.some' (by unfold oneI; rw [if_neg h1, if_neg h2, if_neg c2, if_pos c1]))
  ·exact Ev.neg c1 (Ev.some' (by unfold oneI; rw [if_neg h1, if_neg h2, if_neg c2, if_neg c1]))
def feedM (en : Int) : Nat → ByteArray → List Int → List Int → ByteArray × List Int × List Int
 | 0, x, r, l => (x, r, l)
 | d + 1, x, r, l => if x.size = 0 then (x, r, l) else if (oneI en x).2 = 0 then (x, r, l) else feedM en d (x.extract (oneI en x).2.toNat x.size) (r ++ [(oneI en x).1]) (l ++ [(oneI en x).2])
theorem feedM_len (en : Int) : ∀ (d : Nat) (x : ByteArray) (r l : List Int), (feedM en d x r l).2.1.length ≤ r.length + d ∧ (feedM en d x r l).2.2.length ≤ l.length + d ∧ (feedM en d x r l).1.size ≤ x.size
 | 0, x, r, l => by simp [feedM]
 | d + 1, x, r, l => by
  unfold feedM
  split
  ·simp
  split
  ·simp
  ·have := feedM_len en d (x.extract (oneI en x).2.toNat x.size) (r ++ [(oneI en x).1]) (l ++ [(oneI en x).2])
   rw [ByteArray.size_extract] at this
   simp only [List.length_append, List.length_cons, List.length_nil] at this
   omega
theorem feedM_end (en : Int) : ∀ (d : Nat) (x : ByteArray) (r l : List Int), x.size ≤ d → (feedM en d x r l).1.size = 0 ∨ (0 < (feedM en d x r l).1.size ∧ (oneI en (feedM en d x r l).1).2 = 0)
 | 0, x, r, l, h => .inl (by simp only [feedM]; omega)
 | d + 1, x, r, l, h => by
  unfold feedM
  split
  ·exact .inl ‹_›
  split
  ·exact .inr ⟨by simp only []; omega, ‹_›⟩
  ·have := oneI_width en x (by omega)
   exact feedM_end en d _ _ _ (by rw [ByteArray.size_extract]; omega)
theorem held_of_end (en : Int) (x : ByteArray) (hen : en = 1 ∨ en = 2 ∨ en = 3) (h : x.size = 0 ∨ (0 < x.size ∧ (oneI en x).2 = 0)) : heldB en x = true := by
 unfold heldB
 rcases h with h | ⟨h0, h⟩
 ·rw [if_pos h]
 rw [if_neg (by omega)]
 unfold oneI at h
 by_cases h1 : en = 1
 ·rw [if_pos h1] at h ⊢
  by_cases hb : begunB x = true
  ·exact hb
  ·rw [if_neg hb] at h
   have := decI_width x 0 h0
   omega
 rw [if_neg h1] at h ⊢
 rw [if_pos (by omega)]
 by_cases h2 : x.size = 1
 ·rw [if_pos h2]
 rw [if_neg h2]
 rw [if_neg (by omega)] at h
 by_cases c2 : inB (unitI en x) 55296 56319 = true
 ·rw [if_pos c2] at h
  by_cases c3 : x.size < 4
  ·rw [if_pos (by omega)]
   exact c2
  ·rw [if_neg c3] at h
   split at h <;> simp at h
 ·rw [if_neg c2] at h
  split at h <;> simp at h
theorem specFeed_l1 (en sh lo : Int) (h : ByteArray) : ∀ (d : Nat) (x : ByteArray) (r l : List Int), x.size ≤ d → d ≤ 100000000 → r.length + d ≤ 100000000 → l.length + d ≤ 100000000 →
  Ev (fun k => spec_l2Feed.l1 k x r l en sh lo h) (en, sh, lo, (feedM en d x r l).1, (feedM en d x r l).2.1, (feedM en d x r l).2.2)
 | 0, x, r, l, hd, _, b1, b2 => Ev.step (fun k => spec_l2Feed.l1.eq_2 ..) (Ev.pos ((nil_iff x).mpr (by omega)) (Ev.now _))
 | d + 1, x, r, l, hd, hd2, b1, b2 => by
  unfold feedM
  refine Ev.step (fun k => spec_l2Feed.l1.eq_2 ..) ?_
  by_cases h0 : x.size = 0
  ·exact Ev.pos ((nil_iff x).mpr h0) (Ev.some' (by rw [if_pos h0]))
  refine Ev.neg (fun hh => h0 ((nil_iff x).mp hh)) (Ev.bind (specOne en x (by omega) (by omega)) ?_)
  have hw := oneI_width en x (by omega)
  by_cases h1 : (oneI en x).2 = 0
  ·exact Ev.pos h1 (Ev.some' (by rw [if_neg h0, if_pos h1]))
  refine Ev.neg h1 (Ev.pos (by omega) (Ev.pos (by omega) (Ev.pos hw.1 (Ev.pos hw.2 ?_))))
  rw [if_neg h0, if_neg h1]
  exact specFeed_l1 en sh lo h d _ _ _ (by rw [ByteArray.size_extract]; omega) (by omega) (by simp; omega) (by simp; omega)
theorem implFeed_l1 (en sh : Int) (h : ByteArray) (he : en ≠ 4) (he5 : en ≠ 5) : ∀ (d : Nat) (x : ByteArray) (r l : List Int), x.size ≤ d → d ≤ 100000000 → r.length + d ≤ 100000000 → l.length + d ≤ 100000000 →
  Ev (fun k => impl_Decoder_feed.l0 k r l x en sh 0 h) ((feedM en d x r l).2.1, (feedM en d x r l).2.2, en, sh, 0, (feedM en d x r l).1)
 | 0, x, r, l, hd, _, b1, b2 => Ev.step (fun k => impl_Decoder_feed.l0.eq_2 ..) (Ev.pos ((nil_iff x).mpr (by omega)) (Ev.now _))
 | d + 1, x, r, l, hd, hd2, b1, b2 => by
  unfold feedM
  refine Ev.step (fun k => impl_Decoder_feed.l0.eq_2 ..) ?_
  by_cases h0 : x.size = 0
  ·exact Ev.pos ((nil_iff x).mpr h0) (Ev.some' (by rw [if_pos h0]))
  refine Ev.neg (fun hh => h0 ((nil_iff x).mp hh)) (Ev.neg he5 (Ev.step (fun k => impl_Decoder_feed.j1.eq_2 ..) (Ev.neg (by simp) (Ev.bind (implOne en sh 0 h x he he5 (by omega) (by omega)) ?_))))
  have hw := oneI_width en x (by omega)
  by_cases h1 : (oneI en x).2 = 0
  ·exact Ev.pos h1 (Ev.some' (by rw [if_neg h0, if_pos h1]))
  refine Ev.neg h1 (Ev.bind0 rfl (Ev.pos (by simp; omega) (Ev.bind0 rfl (Ev.pos (by simp; omega) (Ev.pos hw.1 (Ev.pos hw.2 ?_))))))
  rw [if_neg h0, if_neg h1]
  show Ev (fun k => impl_Decoder_feed.l0 k (r ++ [(oneI en x).1]) (l ++ [wrap64 ((oneI en x).2 + 0)]) (x.extract (oneI en x).2.toNat x.size) en sh 0 h) _
  rw [w64 (x := (oneI en x).2 + 0) (by omega) (by omega), Int.add_zero]
  exact implFeed_l1 en sh h he he5 d _ _ _ (by rw [ByteArray.size_extract]; omega) (by omega) (by simp; omega) (by simp; omega)
def feedR (en sh lo : Int) (h s : ByteArray) : Int × Int × ByteArray × List Int × List Int :=
 if en = 4 ∨ en = 5 then ((stepsL en (bytesOf s) sh lo [] []).1, (stepsL en (bytesOf s) sh lo [] []).2.1, h, (stepsL en (bytesOf s) sh lo [] []).2.2.1, (stepsL en (bytesOf s) sh lo [] []).2.2.2)
 else (sh, lo, (feedM en (h ++ s).size (h ++ s) [] []).1, (feedM en (h ++ s).size (h ++ s) [] []).2.1, (feedM en (h ++ s).size (h ++ s) [] []).2.2)
theorem specFeed (en sh lo : Int) (h s : ByteArray) (hs : s.size ≤ 10000000) (hh : h.size ≤ 10000000) (hsh : sh = 0 ∨ sh = 1) (hlo : 0 ≤ lo) (hlo2 : lo ≤ 10000000) : Ev (fun k => spec_l2Feed.f k en sh lo h s) (en, feedR en sh lo h s) := by
 unfold spec_l2Feed.f
 have j4 : (en = 4 ∨ en = 5) → Ev (fun k => spec_l2Feed.j0 k s ([] : List Int) ([] : List Int) true en sh lo h) (en, feedR en sh lo h s) := fun c => by
  have := specFeed_l0 s h en hs s.size 0 sh lo [] [] (by omega) hsh hlo (by omega) (by simp; omega) (by simp; omega)
  refine Ev.step (fun k => spec_l2Feed.j0.eq_2 ..) (Ev.pos rfl ?_)
  unfold feedR
  rw [if_pos c]
  simpa using this
 by_cases c4 : en = 4
 ·exact Ev.pos c4 (j4 (.inl c4))
 refine Ev.neg c4 ?_
 by_cases c5 : en = 5
 ·rw [show (en == 5) = true from beq_iff_eq.2 c5]
  exact j4 (.inr c5)
 ·rw [show (en == 5) = false from beq_eq_false_iff_ne.2 c5]
  have e : (h ++ s).size = h.size + s.size := ByteArray.size_append ..
  refine Ev.step (fun k => spec_l2Feed.j0.eq_2 ..) (Ev.neg (by simp) (Ev.pos (by omega) ?_))
  unfold feedR
  rw [if_neg (by omega)]
  exact specFeed_l1 en sh lo h _ (h ++ s) [] [] (Nat.le_refl _) (by omega) (by simp; omega) (by simp; omega)
theorem implFeed (en sh lo : Int) (h s : ByteArray) (hs : s.size ≤ 10000000) (hh : h.size ≤ 10000000) (hlo : 0 ≤ lo) (hlo2 : lo ≤ 10000000) (h4 : en = 4 ∨ en = 5 → h.size = 0) (h1 : ¬ (en = 4 ∨ en = 5) → lo = 0) :
  Ev (fun k => impl_Decoder_feed.f k en sh lo h s) ((feedR en sh lo h s).2.2.2.1, (feedR en sh lo h s).2.2.2.2, en, (feedR en sh lo h s).1, (feedR en sh lo h s).2.1, (feedR en sh lo h s).2.2.1) := by
 unfold impl_Decoder_feed.f feedR
 refine Ev.pos (by omega) ?_
 have e : (h ++ s).size = h.size + s.size := ByteArray.size_append ..
 by_cases c : en = 4 ∨ en = 5
 ·have hn := nil_size h (h4 c)
  subst hn
  rw [if_pos c]
  have hb : bytesOf ((⟨#[]⟩ : ByteArray) ++ s) = bytesOf s := by
   unfold bytesOf
   rw [ByteArray.data_append, Array.toList_append]
   rfl
  exact implFeed_l0 _ en c (bytesOf s) _ sh lo [] [] hb hlo (by rw [bytesOf_length]; omega) (by rw [bytesOf_length]; simp; omega) (by rw [bytesOf_length]; simp; omega)
 ·rw [if_neg c]
  obtain rfl := h1 c
  exact implFeed_l1 en sh h (fun x => c (.inl x)) (fun x => c (.inr x)) _ (h ++ s) [] [] (Nat.le_refl _) (by omega) (by simp; omega) (by simp; omega)
end Go.Proofs.YtliafedmhgkciaaDoor.Pure
