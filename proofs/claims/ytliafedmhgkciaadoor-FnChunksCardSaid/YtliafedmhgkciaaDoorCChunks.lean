/- Plain laws of bytes that come in pieces: they become the same runes as all at once. -/
import Derived.Test.YtliafedmhgkciaaDoorCP0
import Derived.Test.YtliafedmhgkciaaDoorC3
import Derived.Test.YtliafedmhgkciaaDoorCFeedD
set_option linter.unusedVariables false
set_option linter.unusedSimpArgs false
namespace Go.Proofs.YtliafedmhgkciaaDoor.Pure
open Go.RowKit Go.Proofs.YtliafedmhgkciaaDoor.P Go.Proofs.YtliafedmhgkciaaDoorW.PrintWords
def sumI : List Int → Int
 | [] => 0
 | x :: l => x + sumI l
theorem sumI_append : ∀ (a b : List Int), sumI (a ++ b) = sumI a + sumI b
 | [], b => by simp [sumI]
 | x :: a, b => by simp only [List.cons_append, sumI, sumI_append a b]; omega
theorem stepsL_cons (en b : Int) (t : List Int) (sh lo : Int) (r l : List Int) : stepsL en (b :: t) sh lo r l = if en = 5 ∧ (b = 14 ∨ b = 15) then stepsL en t (15 - b) (lo + 1) r l else stepsL en t sh 0 (r ++ [if en = 5 then shI sh b else b]) (l ++ [lo + 1]) := rfl
theorem stepsL_append (en : Int) : ∀ (a b : List Int) (sh lo : Int) (r l : List Int), stepsL en (a ++ b) sh lo r l = stepsL en b (stepsL en a sh lo r l).1 (stepsL en a sh lo r l).2.1 (stepsL en a sh lo r l).2.2.1 (stepsL en a sh lo r l).2.2.2
 | [], b, sh, lo, r, l => rfl
 | x :: a, b, sh, lo, r, l => by
  rw [List.cons_append, stepsL_cons en x (a ++ b), stepsL_cons en x a]
  by_cases c : en = 5 ∧ (x = 14 ∨ x = 15)
  ·rw [if_pos c, if_pos c]
   exact stepsL_append en a b _ _ _ _
  ·rw [if_neg c, if_neg c]
   exact stepsL_append en a b _ _ _ _
theorem stepsL_acc (en : Int) : ∀ (t : List Int) (sh lo : Int) (r l : List Int), stepsL en t sh lo r l = ((stepsL en t sh lo [] []).1, (stepsL en t sh lo [] []).2.1, r ++ (stepsL en t sh lo [] []).2.2.1, l ++ (stepsL en t sh lo [] []).2.2.2)
 | [], sh, lo, r, l => by simp [stepsL]
 | b :: t, sh, lo, r, l => by
  simp only [stepsL]
  by_cases c : en = 5 ∧ (b = 14 ∨ b = 15)
  ·simp only [if_pos c]
   exact stepsL_acc en t _ _ r l
  ·simp only [if_neg c]
   rw [stepsL_acc en t sh 0 (r ++ _) (l ++ _), stepsL_acc en t sh 0 ([] ++ _) ([] ++ _)]
   simp
theorem stepsL_sum (en : Int) : ∀ (t : List Int) (sh lo : Int) (r l : List Int), sumI (stepsL en t sh lo r l).2.2.2 + (stepsL en t sh lo r l).2.1 = sumI l + lo + (t.length : Int)
 | [], sh, lo, r, l => by simp [stepsL]
 | b :: t, sh, lo, r, l => by
  simp only [stepsL, List.length_cons]
  split
  ·have := stepsL_sum en t (15 - b) (lo + 1) r l
   omega
  ·have := stepsL_sum en t sh 0 (r ++ [if en = 5 then shI sh b else b]) (l ++ [lo + 1])
   rw [sumI_append] at this
   simp only [sumI] at this
   omega
theorem stepsL_loose (en : Int) : ∀ (t : List Int) (sh lo : Int) (r l : List Int), 0 ≤ lo → (stepsL en t sh lo r l).2.1 ≤ lo + (t.length : Int)
 | [], sh, lo, r, l, h => by simp [stepsL]
 | b :: t, sh, lo, r, l, h => by
  simp only [stepsL, List.length_cons]
  split
  ·have := stepsL_loose en t (15 - b) (lo + 1) r l (by omega)
   omega
  ·have := stepsL_loose en t sh 0 (r ++ [if en = 5 then shI sh b else b]) (l ++ [lo + 1]) (by omega)
   omega
theorem decB_more (n n' b0 b1 b2 b3 c1 c2 c3 : Nat) (h0 : b0 < 256) (h1 : b1 < 256) (h2 : b2 < 256) (h3 : b3 < 256) (k1 : c1 < 256) (k2 : c2 < 256) (k3 : c3 < 256) (hn : 1 ≤ n) (hn' : n ≤ n')
  (e1 : 1 < n → c1 = b1) (e2 : 2 < n → c2 = b2) (e3 : 3 < n → c3 = b3) (h : utf8_FullRuneInString.N n (Lib.firstT b0) b1 b2 = true) :
  decB n' (b0 : Int) (c1 : Int) (c2 : Int) (c3 : Int) = decB n (b0 : Int) (b1 : Int) (b2 : Int) (b3 : Int) ∧ utf8_FullRuneInString.N n' (Lib.firstT b0) c1 c2 = true := by
 have hN : ¬ (n < Lib.firstT b0 % 8 ∧ (1 < n → Lib.accLo (Lib.firstT b0 / 16) ≤ b1 ∧ b1 ≤ Lib.accHi (Lib.firstT b0 / 16)) ∧ (2 < n → 128 ≤ b2 ∧ b2 ≤ 191)) := fun x => by
  rw [(N_false n _ b1 b2).2 x] at h
  cases h
 have hm : utf8_FullRuneInString.N n' (Lib.firstT b0) c1 c2 = true := by
  cases hh : utf8_FullRuneInString.N n' (Lib.firstT b0) c1 c2
  ·rw [N_false] at hh
   refine absurd ⟨by omega, fun a => ?_, fun a => ?_⟩ hN
   ·rw [← e1 a]; exact hh.2.1 (by omega)
   ·rw [← e2 a]; exact hh.2.2 (by omega)
  ·rfl
 refine ⟨?_, hm⟩
 have hbad := firstT_bad b0
 by_cases q4 : 4 ≤ n
 ·rw [e1 (by omega), e2 (by omega), e3 (by omega)]
  unfold decB
  simp only [show (2 ≤ n') = (2 ≤ n) from propext ⟨fun _ => by omega, fun _ => by omega⟩, show (3 ≤ n') = (3 ≤ n) from propext ⟨fun _ => by omega, fun _ => by omega⟩, show (4 ≤ n') = (4 ≤ n) from propext ⟨fun _ => by omega, fun _ => by omega⟩]
 unfold decB
 by_cases a1 : (b0 : Int) < 128
 ·rw [if_pos a1, if_pos a1]
 rw [if_neg a1, if_neg a1]
 by_cases a2 : (b0 : Int) < 192
 ·rw [if_pos a2, if_pos a2]
 rw [if_neg a2, if_neg a2]
 by_cases a3 : (b0 : Int) < 224
 ·rw [if_pos a3, if_pos a3]
  by_cases q : 2 ≤ n
  ·rw [e1 (by omega)]
   simp only [show (2 ≤ n') = (2 ≤ n) from propext ⟨fun _ => by omega, fun _ => by omega⟩]
  ·have : ¬ 2 ≤ (b0 : Int) % 32 := by
    rcases firstT_long b0 with c | c | c | c | c | c | c | c | c | c <;> omega
   rw [if_neg (fun x => this x.2.2), if_neg (fun x => this x.2.2)]
 rw [if_neg a3, if_neg a3]
 by_cases a4 : (b0 : Int) < 240
 ·rw [if_pos a4, if_pos a4]
  by_cases q : 3 ≤ n
  ·rw [e1 (by omega), e2 (by omega)]
   simp only [show (3 ≤ n') = (3 ≤ n) from propext ⟨fun _ => by omega, fun _ => by omega⟩]
  ·symm
   rw [if_neg (fun x => q x.1), if_neg]
   intro x
   have hr := x.2.2.2.2
   have x1 := x.2.1
   have x2 := x.2.2.1
   have x3 := x.2.2.2.1
   unfold runeB inB at hr
   simp only [Bool.and_eq_true, decide_eq_true_eq, Bool.not_eq_true', Bool.and_eq_false_iff, decide_eq_false_iff_not] at hr
   have f1 : 1 < n := by
    rcases firstT_long b0 with c | c | c | c | c | c | c | c | c | c <;> omega
   have f2 := e1 f1
   subst f2
   refine hN ⟨?_, fun _ => ?_, fun a => by omega⟩
   ·rcases firstT_long b0 with c | c | c | c | c | c | c | c | c | c <;> omega
   ·rcases firstT_long b0 with c | c | c | c | c | c | c | c | c | c <;> first | omega | (first | rw [c.2.2] | rw [c.2]); (simp [Lib.accLo, Lib.accHi]; omega)
 rw [if_neg a4, if_neg a4]
 by_cases a5 : (b0 : Int) < 248
 ·rw [if_pos a5, if_pos a5]
  symm
  rw [if_neg (fun x => q4 x.1), if_neg]
  intro x
  have hr := x.2.2.2.2.2
  have x1 := x.2.1
  have x2 := x.2.2.1
  have x3 := x.2.2.2.1
  have x4 := x.2.2.2.2.1
  unfold runeB inB at hr
  simp only [Bool.and_eq_true, decide_eq_true_eq, Bool.not_eq_true', Bool.and_eq_false_iff, decide_eq_false_iff_not] at hr
  have h8 : 245 ≤ b0 → b0 < 248 → 5 ≤ (b0 : Int) % 8 := by omega
  have hb5 : b0 < 245 := by omega
  refine hN ⟨?_, fun a => ?_, fun a => ?_⟩
  ·rcases firstT_long b0 with c | c | c | c | c | c | c | c | c | c <;> omega
  ·have f2 := e1 a
   subst f2
   rcases firstT_long b0 with c | c | c | c | c | c | c | c | c | c <;> first | omega | (first | rw [c.2.2] | rw [c.2]); (simp [Lib.accLo, Lib.accHi]; omega)
  ·have f2 := e2 a
   subst f2
   omega
 ·rw [if_neg a5, if_neg a5]
theorem bytesOf_app (x y : ByteArray) : bytesOf (x ++ y) = bytesOf x ++ bytesOf y := by
 unfold bytesOf
 rw [ByteArray.data_append, Array.toList_append, List.map_append]
theorem bt_app (x y : ByteArray) (i : Nat) (h : i < x.size) : bt (x ++ y) (i : Int) = bt x (i : Int) := by
 have hl := bytesOf_length x
 have hl2 := bytesOf_length y
 rw [← rd_bytesOf, ← rd_bytesOf, rd_eq _ (show i < (bytesOf (x ++ y)).length by rw [bytesOf_app, List.length_append]; omega), rd_eq _ (show i < (bytesOf x).length by omega)]
 simp only [bytesOf_app]
 rw [List.getElem_append_left (by omega)]
theorem bt_ext (x : ByteArray) (n i : Nat) (h : n + i < x.size) : bt (x.extract n x.size) (i : Int) = bt x ((n + i : Nat) : Int) := by
 have hl := bytesOf_length x
 have he : bytesOf (x.extract n x.size) = (bytesOf x).drop n := by rw [bytesOf_extract, List.take_of_length_le (by omega)]
 rw [← rd_bytesOf, ← rd_bytesOf, rd_eq _ (show i < (bytesOf (x.extract n x.size)).length by rw [he, List.length_drop]; omega), rd_eq _ (show n + i < (bytesOf x).length by omega)]
 simp only [he]
 rw [List.getElem_drop]
theorem ext_app (x y : ByteArray) (n : Nat) (h : n ≤ x.size) : (x ++ y).extract n (x ++ y).size = x.extract n x.size ++ y := by
 have hl := bytesOf_length x
 have hl2 := bytesOf_length y
 apply bytesOf_inj
 rw [bytesOf_extract, bytesOf_app, bytesOf_app, bytesOf_extract, List.take_of_length_le (by rw [List.length_append, ByteArray.size_append]; omega), List.take_of_length_le (by omega), List.drop_append_of_le_length (by omega)]
theorem ext_split (s : ByteArray) (k : Nat) (h : k ≤ s.size) : s.extract 0 k ++ s.extract k s.size = s := by
 have hl := bytesOf_length s
 apply bytesOf_inj
 rw [bytesOf_app, bytesOf_extract, bytesOf_extract, List.take_of_length_le (i := s.size) (by omega), List.drop_zero, List.take_append_drop]
theorem N_congr (n x b1 b2 c1 c2 : Nat) (h1 : 1 < n → b1 = c1) (h2 : 2 < n → b2 = c2) : utf8_FullRuneInString.N n x b1 b2 = utf8_FullRuneInString.N n x c1 c2 := by
 unfold utf8_FullRuneInString.N
 by_cases a : 1 < n
 ·rw [h1 a]
  by_cases b : 2 < n
  ·rw [h2 b]
  ·rw [decide_eq_false b]
   simp
 ·rw [decide_eq_false a, decide_eq_false (show ¬ 2 < n by omega)]
  simp
theorem begun_bt (s : ByteArray) (hs : 0 < s.size) : begunB s = !utf8_FullRuneInString.N s.size (Lib.firstT (bt s 0).toNat) (bt s 1).toNat (bt s 2).toNat := by
 unfold begunB
 have g0 := get!_bt s 0 hs
 rw [decide_eq_true hs, Bool.true_and]
 have e0 : (s.get! 0).toNat = (bt s 0).toNat := by
  have : bt s ((0 : Nat) : Int) = bt s 0 := rfl
  omega
 rw [e0]
 congr 1
 apply N_congr
 ·intro h
  have g1 := get!_bt s 1 h
  have : bt s ((1 : Nat) : Int) = bt s 1 := rfl
  omega
 ·intro h
  have g2 := get!_bt s 2 h
  have : bt s ((2 : Nat) : Int) = bt s 2 := rfl
  omega
theorem oneI_more (en : Int) (x y : ByteArray) (hx : 0 < x.size) (h : (oneI en x).2 ≠ 0) : oneI en (x ++ y) = oneI en x := by
 have hsz : (x ++ y).size = x.size + y.size := ByteArray.size_append ..
 unfold oneI at h ⊢
 by_cases h1 : en = 1
 ·rw [if_pos h1] at h
  rw [if_pos h1, if_pos h1]
  by_cases hb : begunB x = true
  ·rw [if_pos hb] at h
   exact absurd rfl h
  rw [if_neg hb]
  have hb2 : utf8_FullRuneInString.N x.size (Lib.firstT (bt x 0).toNat) (bt x 1).toNat (bt x 2).toNat = true := by
   rw [begun_bt x hx] at hb
   simpa using hb
  have r0 := bt_range x 0
  have r1 := bt_range x 1
  have r2 := bt_range x 2
  have r3 := bt_range x 3
  have s1 := bt_range (x ++ y) 1
  have s2 := bt_range (x ++ y) 2
  have s3 := bt_range (x ++ y) 3
  have a0 := bt_app x y 0 hx
  have a1 := fun q : 1 < x.size => bt_app x y 1 q
  have a2 := fun q : 2 < x.size => bt_app x y 2 q
  have a3 := fun q : 3 < x.size => bt_app x y 3 q
  have c0 : ((0 : Nat) : Int) = 0 := rfl
  have c1 : ((1 : Nat) : Int) = 1 := rfl
  have c2 : ((2 : Nat) : Int) = 2 := rfl
  have c3 : ((3 : Nat) : Int) = 3 := rfl
  rw [c0] at a0
  rw [c1] at a1
  rw [c2] at a2
  rw [c3] at a3
  have key := decB_more x.size (x ++ y).size (bt x 0).toNat (bt x 1).toNat (bt x 2).toNat (bt x 3).toNat (bt (x ++ y) 1).toNat (bt (x ++ y) 2).toNat (bt (x ++ y) 3).toNat (by omega) (by omega) (by omega) (by omega) (by omega) (by omega) (by omega) (by omega) (by omega)
   (fun q => by rw [a1 q]) (fun q => by rw [a2 q]) (fun q => by rw [a3 q]) hb2
  have hb3 : ¬ begunB (x ++ y) = true := by
   rw [begun_bt (x ++ y) (by omega), a0, key.2]
   simp
  rw [if_neg hb3]
  have k1 := key.1
  rw [Int.toNat_of_nonneg r0.1, Int.toNat_of_nonneg r1.1, Int.toNat_of_nonneg r2.1, Int.toNat_of_nonneg r3.1, Int.toNat_of_nonneg s1.1, Int.toNat_of_nonneg s2.1, Int.toNat_of_nonneg s3.1] at k1
  unfold decI
  rw [Nat.sub_zero, Nat.sub_zero]
  show decB (x ++ y).size (bt (x ++ y) 0) (bt (x ++ y) 1) (bt (x ++ y) 2) (bt (x ++ y) 3) = decB x.size (bt x 0) (bt x 1) (bt x 2) (bt x 3)
  rw [a0]
  exact k1
 rw [if_neg h1] at h
 rw [if_neg h1, if_neg h1]
 by_cases h2 : x.size < 2
 ·rw [if_pos h2] at h
  exact absurd rfl h
 rw [if_neg h2] at h
 have a0 : bt (x ++ y) 0 = bt x 0 := bt_app x y 0 hx
 have a1 : bt (x ++ y) 1 = bt x 1 := bt_app x y 1 (by omega)
 have eu : unitI en (x ++ y) = unitI en x := by unfold unitI; rw [a0, a1]
 rw [if_neg h2, if_neg (show ¬ (x ++ y).size < 2 by omega), eu]
 by_cases c2 : inB (unitI en x) 55296 56319 = true
 ·rw [if_pos c2] at h
  rw [if_pos c2, if_pos c2]
  by_cases c3 : x.size < 4
  ·rw [if_pos c3] at h
   exact absurd rfl h
  rw [if_neg c3, if_neg (show ¬ (x ++ y).size < 4 by omega)]
  have e2 : unitI en ((x ++ y).extract 2 (x ++ y).size) = unitI en (x.extract 2 x.size) := by
   have b0 : bt ((x ++ y).extract 2 (x ++ y).size) 0 = bt (x.extract 2 x.size) 0 := by
    have u := bt_ext (x ++ y) 2 0 (by omega)
    have v := bt_ext x 2 0 (by omega)
    have w := bt_app x y 2 (by omega)
    exact u.trans (w.trans v.symm)
   have b1 : bt ((x ++ y).extract 2 (x ++ y).size) 1 = bt (x.extract 2 x.size) 1 := by
    have u := bt_ext (x ++ y) 2 1 (by omega)
    have v := bt_ext x 2 1 (by omega)
    have w := bt_app x y 3 (by omega)
    exact u.trans (w.trans v.symm)
   unfold unitI
   rw [b0, b1]
  rw [e2]
 ·rw [if_neg c2, if_neg c2]
theorem feedM_acc (en : Int) : ∀ (d : Nat) (x : ByteArray) (r l : List Int), feedM en d x r l = ((feedM en d x [] []).1, r ++ (feedM en d x [] []).2.1, l ++ (feedM en d x [] []).2.2)
 | 0, x, r, l => by simp [feedM]
 | d + 1, x, r, l => by
  simp only [feedM]
  by_cases c : x.size = 0
  ·simp only [if_pos c]
   simp
  simp only [if_neg c]
  by_cases c2 : (oneI en x).2 = 0
  ·simp only [if_pos c2]
   simp
  simp only [if_neg c2]
  rw [feedM_acc en d _ (r ++ _) (l ++ _), feedM_acc en d _ ([] ++ _) ([] ++ _)]
  simp
theorem feedM_fuel (en : Int) : ∀ (d d' : Nat) (x : ByteArray) (r l : List Int), x.size ≤ d → x.size ≤ d' → feedM en d x r l = feedM en d' x r l
 | 0, 0, x, r, l, _, _ => rfl
 | 0, d' + 1, x, r, l, h, _ => by
  simp only [feedM]
  rw [if_pos (by omega)]
 | d + 1, 0, x, r, l, _, h => by
  simp only [feedM]
  rw [if_pos (by omega)]
 | d + 1, d' + 1, x, r, l, h, h' => by
  simp only [feedM]
  by_cases c : x.size = 0
  ·rw [if_pos c, if_pos c]
  rw [if_neg c, if_neg c]
  by_cases c2 : (oneI en x).2 = 0
  ·rw [if_pos c2, if_pos c2]
  rw [if_neg c2, if_neg c2]
  have := oneI_width en x (by omega)
  exact feedM_fuel en d d' _ _ _ (by rw [ByteArray.size_extract]; omega) (by rw [ByteArray.size_extract]; omega)
theorem feedM_append (en : Int) (y : ByteArray) : ∀ (d : Nat) (x : ByteArray) (r l : List Int), x.size ≤ d →
  feedM en (x ++ y).size (x ++ y) r l = feedM en ((feedM en d x r l).1 ++ y).size ((feedM en d x r l).1 ++ y) (feedM en d x r l).2.1 (feedM en d x r l).2.2
 | 0, x, r, l, h => rfl
 | d + 1, x, r, l, h => by
  simp only [feedM]
  by_cases c : x.size = 0
  ·rw [if_pos c]
  rw [if_neg c]
  by_cases c2 : (oneI en x).2 = 0
  ·rw [if_pos c2]
  rw [if_neg c2]
  have hw := oneI_width en x (by omega)
  have hsz : (x ++ y).size = x.size + y.size := ByteArray.size_append ..
  have ho := oneI_more en x y (by omega) c2
  have ih := feedM_append en y d (x.extract (oneI en x).2.toNat x.size) (r ++ [(oneI en x).1]) (l ++ [(oneI en x).2]) (by rw [ByteArray.size_extract]; omega)
  rw [← ih, ← ext_app x y _ (by omega)]
  obtain ⟨m, hm⟩ : ∃ m, (x ++ y).size = m + 1 := ⟨(x ++ y).size - 1, by omega⟩
  have step : feedM en (x ++ y).size (x ++ y) r l = feedM en m ((x ++ y).extract (oneI en x).2.toNat (x ++ y).size) (r ++ [(oneI en x).1]) (l ++ [(oneI en x).2]) := by
   conv => lhs; rw [hm]; simp only [feedM]
   rw [if_neg (by omega), ho, if_neg c2]
  rw [step]
  exact feedM_fuel en _ _ _ _ _ (by rw [ByteArray.size_extract]; omega) (Nat.le_refl _)
theorem feedM_sum (en : Int) : ∀ (d : Nat) (x : ByteArray) (r l : List Int), sumI (feedM en d x r l).2.2 + ((feedM en d x r l).1.size : Int) = sumI l + (x.size : Int)
 | 0, x, r, l => rfl
 | d + 1, x, r, l => by
  simp only [feedM]
  by_cases c : x.size = 0
  ·rw [if_pos c]
  rw [if_neg c]
  by_cases c2 : (oneI en x).2 = 0
  ·rw [if_pos c2]
  rw [if_neg c2]
  have hw := oneI_width en x (by omega)
  have := feedM_sum en d (x.extract (oneI en x).2.toNat x.size) (r ++ [(oneI en x).1]) (l ++ [(oneI en x).2])
  rw [this, sumI_append, ByteArray.size_extract]
  simp only [sumI]
  omega
theorem feedR_append (en sh lo : Int) (h a b : ByteArray) : feedR en sh lo h (a ++ b) =
  ((feedR en (feedR en sh lo h a).1 (feedR en sh lo h a).2.1 (feedR en sh lo h a).2.2.1 b).1, (feedR en (feedR en sh lo h a).1 (feedR en sh lo h a).2.1 (feedR en sh lo h a).2.2.1 b).2.1, (feedR en (feedR en sh lo h a).1 (feedR en sh lo h a).2.1 (feedR en sh lo h a).2.2.1 b).2.2.1,
   (feedR en sh lo h a).2.2.2.1 ++ (feedR en (feedR en sh lo h a).1 (feedR en sh lo h a).2.1 (feedR en sh lo h a).2.2.1 b).2.2.2.1, (feedR en sh lo h a).2.2.2.2 ++ (feedR en (feedR en sh lo h a).1 (feedR en sh lo h a).2.1 (feedR en sh lo h a).2.2.1 b).2.2.2.2) := by
 unfold feedR
 by_cases c : en = 4 ∨ en = 5
 ·simp only [if_pos c]
  rw [bytesOf_app, stepsL_append, stepsL_acc en (bytesOf b)]
 ·simp only [if_neg c]
  rw [← ByteArray.append_assoc, feedM_append en b (h ++ a).size (h ++ a) [] [] (Nat.le_refl _), feedM_acc en _ ((feedM en (h ++ a).size (h ++ a) [] []).1 ++ b)]
theorem feedR_sum (en sh lo : Int) (h s : ByteArray) (h4 : en = 4 ∨ en = 5 → h.size = 0) : sumI (feedR en sh lo h s).2.2.2.2 + ((feedR en sh lo h s).2.2.1.size : Int) + (if en = 4 ∨ en = 5 then (feedR en sh lo h s).2.1 else 0) = (s.size : Int) + (h.size : Int) + (if en = 4 ∨ en = 5 then lo else 0) := by
 unfold feedR
 by_cases c : en = 4 ∨ en = 5
 ·simp only [if_pos c]
  have := stepsL_sum en (bytesOf s) sh lo [] []
  rw [bytesOf_length] at this
  have := h4 c
  simp only [sumI] at *
  omega
 ·simp only [if_neg c]
  have := feedM_sum en (h ++ s).size (h ++ s) [] []
  have e : (h ++ s).size = h.size + s.size := ByteArray.size_append ..
  simp only [sumI] at this
  omega
theorem feedR_loose (en sh lo : Int) (h s : ByteArray) (hlo : 0 ≤ lo) : (feedR en sh lo h s).2.1 ≤ lo + (s.size : Int) := by
 unfold feedR
 split
 ·have := stepsL_loose en (bytesOf s) sh lo [] [] hlo
  rw [bytesOf_length] at this
  exact this
 ·simp only []
  omega
end Go.Proofs.YtliafedmhgkciaaDoor.Pure
