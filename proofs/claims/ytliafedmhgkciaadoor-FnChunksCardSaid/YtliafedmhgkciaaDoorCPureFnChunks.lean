/- Bytes that come in pieces become the same runes as all at once, with as many bytes each, for drawn decoders and bytes. -/
import Derived.Test.YtliafedmhgkciaaDoorCP0
import Derived.Test.YtliafedmhgkciaaDoorC5
import Derived.Test.YtliafedmhgkciaaDoorC6
import Derived.Test.YtliafedmhgkciaaDoorCStFnChunks
import Derived.Test.YtliafedmhgkciaaDoorCDrawDec
import Derived.Test.YtliafedmhgkciaaDoorCSameInts
import Derived.Test.YtliafedmhgkciaaDoorCFlush
set_option linter.unusedVariables false
set_option linter.unusedSimpArgs false
namespace Go.Proofs.YtliafedmhgkciaaDoor.Pure
open Go.RowKit Go.Proofs.YtliafedmhgkciaaDoor.P Go.Proofs.YtliafedmhgkciaaDoorW.PrintWords
theorem sum_l (l : List Int) (hs : l.length ≤ 1000000) (hb : ∀ x ∈ l, -1000000000 ≤ x ∧ x ≤ 1000000000) : ∀ (d i : Nat) (a : Int), i + d = l.length → -1000000000 * (i : Int) ≤ a → a ≤ 1000000000 * (i : Int) → Ev (fun k => laws_sum.l0 k a l (l.length : Int) (i : Int)) (a + sumI (l.drop i))
 | 0, i, a, hi, h1, h2 => by
  refine Ev.step (fun k => laws_sum.l0.eq_2 ..) (Ev.neg (by omega) (Ev.some' ?_))
  rw [List.drop_eq_nil_of_le (by omega)]
  simp [sumI]
 | d + 1, i, a, hi, h1, h2 => by
  have hj : i < l.length := by omega
  have := hb _ (List.getElem_mem hj)
  refine Ev.step (fun k => laws_sum.l0.eq_2 ..) (Ev.pos (by omega) (Ev.pos (by omega) (Ev.pos (by omega) ?_)))
  rw [rd_eq l hj, w64 (x := a + l[i]) (by omega) (by omega), w64s (by omega), drop_cons l hj]
  have ih := sum_l l hs hb d (i + 1) (a + l[i]) (by omega) (by omega) (by omega)
  have e : a + sumI (l[i] :: l.drop (i + 1)) = a + l[i] + sumI (l.drop (i + 1)) := by
   show a + (l[i] + sumI (l.drop (i + 1))) = _
   omega
  rw [e]
  exact ih
theorem sum_eq (l : List Int) (hs : l.length ≤ 1000000) (hb : ∀ x ∈ l, -1000000000 ≤ x ∧ x ≤ 1000000000) : Ev (fun k => laws_sum.f k l) (sumI l) := by
 unfold laws_sum.f
 have := sum_l l hs hb l.length 0 0 (by omega) (by omega) (by omega)
 simpa using this
theorem number_l (l : List Int) (hs : l.length ≤ 1000000000000) (hb : ∀ x ∈ l, 0 ≤ x ∧ x ≤ 255) : ∀ (d i : Nat) (a : Int), i + d = l.length → 0 ≤ a → a < 1000003 → ∃ r, Ev (fun k => laws_numberOf.l0 k a l (l.length : Int) (i : Int)) r ∧ 0 ≤ r ∧ r < 1000003
 | 0, i, a, hi, h1, h2 => ⟨a, Ev.step (fun k => laws_numberOf.l0.eq_2 ..) (Ev.neg (by omega) (Ev.now _)), h1, h2⟩
 | d + 1, i, a, hi, h1, h2 => by
  have hj : i < l.length := by omega
  have := hb _ (List.getElem_mem hj)
  have w1 : wrap64 (31 * a) = 31 * a := w64 (by omega) (by omega)
  have w2 : wrap64 l[i] = l[i] := w64 (by omega) (by omega)
  have w3 : wrap64 (31 * a + l[i]) = 31 * a + l[i] := w64 (by omega) (by omega)
  have m : (31 * a + l[i]).tmod 1000003 = (31 * a + l[i]) % 1000003 := Int.tmod_eq_emod_of_nonneg (by omega)
  obtain ⟨r, e, h⟩ := number_l l hs hb d (i + 1) ((31 * a + l[i]) % 1000003) (by omega) (by omega) (by omega)
  refine ⟨r, Ev.step (fun k => laws_numberOf.l0.eq_2 ..) (Ev.pos (by omega) (Ev.pos (by omega) (Ev.pos (by omega) ?_))), h⟩
  rw [rd_eq l hj, w1, w2, w3, m, w64s (by omega)]
  exact e
theorem number_eq (l : List Int) (hs : l.length ≤ 1000000000000) (hb : ∀ x ∈ l, 0 ≤ x ∧ x ≤ 255) : ∃ r, Ev (fun k => laws_numberOf.f k l) r ∧ 0 ≤ r ∧ r < 1000003 := by
 unfold laws_numberOf.f
 have := number_l l hs hb l.length 0 0 (by omega) (by omega) (by omega)
 simpa using this
theorem stepsL_each (en : Int) : ∀ (t : List Int) (sh lo : Int) (r l : List Int), 0 ≤ lo → lo + t.length ≤ 100000 → (∀ x ∈ l, 0 ≤ x ∧ x ≤ 100000) → ∀ x ∈ (stepsL en t sh lo r l).2.2.2, 0 ≤ x ∧ x ≤ 100000
 | [], sh, lo, r, l, h0, h1, hl => hl
 | b :: t, sh, lo, r, l, h0, h1, hl => by
  rw [stepsL_cons]
  simp only [List.length_cons] at h1
  split
  ·exact stepsL_each en t _ _ r l (by omega) (by omega) hl
  ·refine stepsL_each en t _ _ _ _ (by omega) (by omega) (fun x hx => ?_)
   rcases List.mem_append.1 hx with hx | hx
   ·exact hl x hx
   ·rw [List.mem_singleton.1 hx]; omega
theorem feedM_each (en : Int) : ∀ (d : Nat) (x : ByteArray) (r l : List Int), x.size ≤ 100000 → (∀ y ∈ l, 0 ≤ y ∧ y ≤ 100000) → ∀ y ∈ (feedM en d x r l).2.2, 0 ≤ y ∧ y ≤ 100000
 | 0, x, r, l, hx, hl => hl
 | d + 1, x, r, l, hx, hl => by
  rw [feedM]
  by_cases h0 : x.size = 0
  ·rw [if_pos h0]; exact hl
  rw [if_neg h0]
  by_cases h1 : (oneI en x).2 = 0
  ·rw [if_pos h1]; exact hl
  rw [if_neg h1]
  have hw := oneI_width en x (by omega)
  refine feedM_each en d _ _ _ (by rw [ByteArray.size_extract]; omega) (fun y hy => ?_)
  rcases List.mem_append.1 hy with hy | hy
  ·exact hl y hy
  ·rw [List.mem_singleton.1 hy]; omega
theorem feedR_each (en sh lo : Int) (h s : ByteArray) (h0 : 0 ≤ lo) (h1 : lo ≤ 1000) (hh : h.size ≤ 1000) (hs : s.size ≤ 1000) : ∀ x ∈ (feedR en sh lo h s).2.2.2.2, 0 ≤ x ∧ x ≤ 100000 := by
 unfold feedR
 split
 ·exact stepsL_each en _ _ _ _ _ h0 (by rw [bytesOf_length]; omega) (by simp)
 ·exact feedM_each en _ _ _ _ (by rw [ByteArray.size_append]; omega) (by simp)
theorem flushL_each (n : Nat) (hn : 1 ≤ n) : ∀ (d m : Nat), m ≤ 100000 → ∀ x ∈ flushL n d m, 0 ≤ x ∧ x ≤ 100000
 | 0, m, hm => by simp [flushL]
 | d + 1, m, hm => by
  rw [flushL]
  by_cases h0 : m = 0
  ·rw [if_pos h0]; simp
  ·rw [if_neg h0]
   intro x hx
   rcases List.mem_cons.1 hx with hx | hx
   ·rw [hx]; omega
   ·exact flushL_each n hn d _ (by omega) x hx
def flR (en sh lo : Int) (h : ByteArray) : Int × Int × Int × ByteArray × List Int × List Int × Bool :=
 if goodDecB en sh lo h = true then (en, sh, lo, (⟨#[]⟩ : ByteArray), List.replicate (flushL (if en = 2 ∨ en = 3 then 2 else 1) h.size h.size).length 65533, flushL (if en = 2 ∨ en = 3 then 2 else 1) h.size h.size, true)
 else (0, 0, 0, (⟨#[]⟩ : ByteArray), [], [], false)
theorem implFl (en sh lo : Int) (h : ByteArray) (hh : h.size ≤ 1000000) : Ev (fun k => impl_FlushDecoder.f k en sh lo h) (flR en sh lo h) := by
 unfold impl_FlushDecoder.f flR
 refine Ev.bind (implGoodDec en sh lo h) ?_
 by_cases c : goodDecB en sh lo h = true
 ·rw [if_pos c]
  exact Ev.pos c (Ev.bind (implFlush en sh lo h (by omega)) (Ev.now _))
 ·rw [if_neg c]
  exact Ev.neg c (Ev.now _)
theorem specFl (en sh lo : Int) (h : ByteArray) (hh : h.size ≤ 1000000) : Ev (fun k => spec_FlushDecoder.f k en sh lo h) (flR en sh lo h) := by
 unfold spec_FlushDecoder.f flR
 refine Ev.bind (specGoodDec en sh lo h) ?_
 by_cases c : goodDecB en sh lo h = true
 ·rw [if_pos c]
  exact Ev.pos c (Ev.bind (specFlush en sh lo h (by omega)) (Ev.now _))
 ·rw [if_neg c]
  exact Ev.neg c (Ev.now _)
theorem flush_part {c : List Int} (hc : isBytes c) : Ev (fun k => laws_FnChunks.j2 k c) true := by
 obtain ⟨en, sh, lo, h, e1, z⟩ := drawFlush hc
 have hn : 1 ≤ (if en = 2 ∨ en = 3 then 2 else 1 : Nat) := by split <;> omega
 have hle := flushL_le (if en = 2 ∨ en = 3 then 2 else 1) h.size h.size
 refine Ev.step (fun k => laws_FnChunks.j2.eq_2 ..) (Ev.bind e1 (Ev.bind (implFl en sh lo h (by omega)) (Ev.bind (specFl en sh lo h (by omega)) (Ev.neg (by simp) (Ev.neg (by simp) ?_)))))
 unfold flR
 by_cases g : goodDecB en sh lo h = true
 ·rw [if_pos g]
  simp only []
  refine Ev.bind (sameInts_self _ (by rw [List.length_replicate]; omega)) (Ev.pos rfl (Ev.bind (sameInts_self _ (by omega)) (Ev.pos rfl (Ev.pos trivial ?_))))
  refine Ev.bind (sum_eq _ (by omega) (fun x hx => ?_)) (Ev.pos (flushL_sum _ hn _ _ (Nat.le_refl _)) (Ev.some' (by rw [beq_iff_eq, nil_iff]; rfl)))
  have := flushL_each _ hn _ _ (by omega) x hx
  omega
 ·rw [if_neg g]
  exact Ev.bind (sameInts_self _ (by simp)) (Ev.pos rfl (Ev.bind (sameInts_self _ (by simp)) (Ev.pos rfl (Ev.neg (by simp) (Ev.now _)))))
theorem feedR_bytes {en sh lo : Int} {h s : ByteArray} (hg : goodDecB en sh lo h = true) (h0 : 0 ≤ (feedR en sh lo h s).2.1) : sumI (feedR en sh lo h s).2.2.2.2 + ((feedR en sh lo h s).2.2.1.size : Int) + (feedR en sh lo h s).2.1 = (s.size : Int) + (h.size : Int) + lo := by
 obtain ⟨g1, g2, g3, g4, g5, g6, g7, g8⟩ := good_facts hg
 have hs := feedR_sum en sh lo h s g8
 by_cases c : en = 4 ∨ en = 5
 ·rw [if_pos c, if_pos c] at hs
  exact hs
 ·rw [if_neg c, if_neg c] at hs
  have hlo : lo = 0 := (g6 (by omega)).2
  have h2 : (feedR en sh lo h s).2.1 = lo := by
   unfold feedR
   rw [if_neg c]
  omega
theorem feedR_lo {en sh lo : Int} {h s : ByteArray} (hsh : sh = 0 ∨ sh = 1) (hlo : 0 ≤ lo) : 0 ≤ (feedR en sh lo h s).2.1 := by
 unfold feedR
 split
 ·exact (stepsL_shift en (bytesOf s) sh lo [] [] hsh hlo).2
 ·exact hlo
theorem fdR_ok {en sh lo : Int} {h s : ByteArray} (hg : goodDecB en sh lo h = true) (hs : s.size ≤ 1000) (hl : (feedR en sh lo h s).2.1 ≤ 1000) : fdR en sh lo h s = (en, (feedR en sh lo h s).1, (feedR en sh lo h s).2.1, (feedR en sh lo h s).2.2.1, (feedR en sh lo h s).2.2.2.1, (feedR en sh lo h s).2.2.2.2, true) := by
 unfold fdR
 rw [if_pos ⟨hg, hs, hl⟩]
theorem fdR_no {en sh lo : Int} {h s : ByteArray} (hn : ¬ (goodDecB en sh lo h = true ∧ s.size ≤ 1000 ∧ (feedR en sh lo h s).2.1 ≤ 1000)) : fdR en sh lo h s = (0, 0, 0, (⟨#[]⟩ : ByteArray), [], [], false) := by
 unfold fdR
 rw [if_neg hn]
theorem mod_bounds (m : Int) (n : Nat) (hm : 0 ≤ m) : ∃ q, Int.tmod m ((n : Int) + 1) = q ∧ 0 ≤ q ∧ q < (n : Int) + 1 :=
 ⟨m % ((n : Int) + 1), Int.tmod_eq_emod_of_nonneg hm, Int.emod_nonneg _ (by omega), Int.emod_lt_of_pos _ (by omega)⟩
theorem parts (s : ByteArray) (q : Int) (q0 : 0 ≤ q) (q1 : q < (s.size : Int) + 1) : q ≤ (s.size : Int) ∧ (s.extract 0 q.toNat).size = q.toNat ∧ (s.extract q.toNat s.size).size = s.size - q.toNat ∧ s.extract 0 q.toNat ++ s.extract q.toNat s.size = s :=
 ⟨by omega, by rw [ByteArray.size_extract]; omega, by rw [ByteArray.size_extract]; omega, ext_split s q.toNat (by omega)⟩
theorem sum_w (x y z u v w : Int) (h : x + y + z = u + v + w) (h1 : 0 ≤ y ∧ y ≤ 100000) (h2 : 0 ≤ z ∧ z ≤ 100000) (h3 : 0 ≤ u ∧ u ≤ 100000) (h4 : 0 ≤ v ∧ v ≤ 100000) (h5 : 0 ≤ w ∧ w ≤ 100000) : wrap64 (wrap64 (x + y) + z) = wrap64 (wrap64 (u + v) + w) := by
 rw [w64 (x := x + y) (by omega) (by omega), h, w64 (x := u + v) (by omega) (by omega)]
set_option maxHeartbeats 800000
theorem FnChunks : FnChunks_Pure := by
 intro c c2 w1 w2
 refine Ev.get (g := fun k => laws_FnChunks.f k c c2) ?_
 unfold laws_FnChunks.f
 rcases big_cases c c2 (by omega) (by omega) with hb | ⟨hb, l1, l2⟩
 ·exact Ev.bind0 hb (Ev.pos rfl (Ev.now _))
 have hc := isBytes_of w1 (by omega)
 have hc2 := isBytes_of w2 (by omega)
 have last := flush_part hc2
 obtain ⟨en, sh, lo, h, s, e1, z1, z2⟩ := drawFeed hc
 have ne0 : ¬ ((s.size : Int) + 1 = 0) := by omega
 refine Ev.bind0 hb (Ev.neg (by simp) (Ev.bind e1 (Ev.bind (implFeedD en sh lo h s (by omega)) (Ev.bind (specFeedD en sh lo h s (by omega)) (Ev.neg (by simp) (Ev.neg (by simp) ?_))))))
 have lens := fdR_len en sh lo h s
 refine Ev.bind (sameInts_self _ (by omega)) (Ev.pos rfl (Ev.bind (sameInts_self _ (by omega)) (Ev.pos rfl (Ev.bind (implGoodDec en sh lo h) (Ev.bind (specGoodDec en sh lo h) ?_)))))
 simp only [bne_self_eq_false]
 refine Ev.step (fun k => laws_FnChunks.j0.eq_2 ..) (Ev.neg (by simp) ?_)
 by_cases g : goodDecB en sh lo h = true ∧ s.size ≤ 1000 ∧ (feedR en sh lo h s).2.1 ≤ 1000
 ·obtain ⟨hg, hs, hl⟩ := g
  obtain ⟨g1, g2, g3, g4, g5, g6, g7, g8⟩ := good_facts hg
  have hlo := feedR_lo (en := en) (h := h) (s := s) g3 g4
  have hby := feedR_bytes (s := s) hg hlo
  have held := fdR_held en sh lo h s
  have each := feedR_each en sh lo h s g4 g5 (by omega) (by omega)
  have ap0 : ∀ a b, a ++ b = s → feedR en sh lo h s = _ := fun a b e => e ▸ feedR_append en sh lo h a b
  rw [fdR_ok hg hs hl] at lens held ⊢
  simp only [] at lens held
  generalize hF : feedR en sh lo h s = F at hl hlo hby lens held each ap0 ⊢
  clear hF g1 g2 g3 g6 g7 g8 w1 w2
  have hs100 : (h.size : Int) + (s.size : Int) ≤ 160 := by omega
  refine Ev.pos rfl ?_
  obtain ⟨m, e2, m0, m1⟩ := number_eq c2 (by omega) (fun x hx => hc2.2 x hx)
  refine Ev.bind e2 ?_
  rw [show wrap64 ((s.size : Int) + 1) = (s.size : Int) + 1 from w64 (by omega) (by omega)]
  obtain ⟨q, hq, q0, q1⟩ := mod_bounds m s.size m0
  rw [hq]
  clear hq
  obtain ⟨q2, sa, sb, sp⟩ := parts s q q0 q1
  refine Ev.neg ne0 (Ev.pos q0 (Ev.pos q2 ?_))
  generalize s.extract 0 q.toNat = a at sa sp ⊢
  generalize s.extract q.toNat s.size = b at sb sp ⊢
  have ap := ap0 a b sp
  have eq1 : wrap64 (wrap64 (sumI F.2.2.2.2 + (F.2.2.1.size : Int)) + F.2.1) = wrap64 (wrap64 ((s.size : Int) + (h.size : Int)) + lo) := by
   exact sum_w _ _ _ _ _ _ hby ⟨by omega, by omega⟩ ⟨hlo, by omega⟩ ⟨by omega, by omega⟩ ⟨by omega, by omega⟩ ⟨by omega, by omega⟩
  have esum := sum_eq F.2.2.2.2 (by omega) (fun x hx => by
   have := each x hx
   omega)
  have j1t : Ev (fun k => laws_FnChunks.j1 k c2 s F.2.2.2.2 q true false en sh lo h en F.1 F.2.1 F.2.2.1) true :=
   Ev.step (fun k => laws_FnChunks.j1.eq_2 ..) (Ev.neg (by simp) (Ev.pos rfl (Ev.bind esum (Ev.pos eq1 last))))
  have j1f : (1000 < lo + q) → Ev (fun k => laws_FnChunks.j1 k c2 s F.2.2.2.2 q false false en sh lo h en F.1 F.2.1 F.2.2.1) true := fun hbig =>
   Ev.step (fun k => laws_FnChunks.j1.eq_2 ..) (Ev.neg (by simp) (Ev.neg (by simp) (Ev.neg (by rw [w64 (by omega) (by omega)]; omega) (Ev.bind esum (Ev.pos eq1 last)))))
  have loA := feedR_loose en sh lo h a g4
  have ha := fdR_held en sh lo h a
  have la := fdR_len en sh lo h a
  have ea := implFeedD en sh lo h a (by omega)
  have okA : (feedR en sh lo h a).2.1 ≤ 1000 → _ := fun x => fdR_ok hg (show a.size ≤ 1000 by omega) x
  have noA : ¬ (feedR en sh lo h a).2.1 ≤ 1000 → _ := fun x => fdR_no (en := en) (sh := sh) (lo := lo) (h := h) (s := a) (fun y => x y.2.2)
  generalize hA : feedR en sh lo h a = A at ap loA okA noA
  clear hA
  refine Ev.bind ea ?_
  by_cases c1 : A.2.1 ≤ 1000
  ·rw [okA c1] at ha la ⊢
   simp only [] at ha la
   have eb := implFeedD en A.1 A.2.1 A.2.2.1 b (by omega)
   have lb := fdR_len en A.1 A.2.1 A.2.2.1 b
   refine Ev.bind eb (Ev.pos rfl ?_)
   by_cases k2 : goodDecB en A.1 A.2.1 A.2.2.1 = true ∧ b.size ≤ 1000 ∧ (feedR en A.1 A.2.1 A.2.2.1 b).2.1 ≤ 1000
   ·rw [fdR_ok k2.1 k2.2.1 k2.2.2] at lb ⊢
    simp only [] at lb
    clear k2 eb
    generalize feedR en A.1 A.2.1 A.2.2.1 b = B at ap lb ⊢
    have p1 : F.1 = B.1 := by rw [ap]
    have p2 : F.2.1 = B.2.1 := by rw [ap]
    have p3 : F.2.2.1 = B.2.2.1 := by rw [ap]
    have p4 : A.2.2.2.1 ++ B.2.2.2.1 = F.2.2.2.1 := by rw [ap]
    have p5 : A.2.2.2.2 ++ B.2.2.2.2 = F.2.2.2.2 := by rw [ap]
    refine Ev.pos rfl (Ev.neg (by rw [p1, p2, p3]; simp) (Ev.pos (show A.2.2.2.1.length + B.2.2.2.1.length < 17592186044416 by omega) ?_))
    show Ev (fun k => (laws_sameInts.f k (A.2.2.2.1 ++ B.2.2.2.1) _).bind _) _
    rw [p4]
    refine Ev.bind (sameInts_self _ (by omega)) (Ev.pos rfl (Ev.pos (show A.2.2.2.2.length + B.2.2.2.2.length < 17592186044416 by omega) ?_))
    show Ev (fun k => (laws_sameInts.f k (A.2.2.2.2 ++ B.2.2.2.2) _).bind _) _
    rw [p5]
    exact Ev.bind (sameInts_self _ (by omega)) j1t
   ·rw [fdR_no k2]
    exact Ev.neg (by simp) j1t
  ·rw [noA c1]
   refine Ev.bind (implFeedD _ _ _ _ b (Nat.zero_le _)) (Ev.neg (by simp) (j1f ?_))
   omega
 ·rw [fdR_no g]
  exact Ev.neg (by simp) last
end Go.Proofs.YtliafedmhgkciaaDoor.Pure
