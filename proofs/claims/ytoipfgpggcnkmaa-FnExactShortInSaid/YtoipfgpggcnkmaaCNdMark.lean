/- Plain laws of machines of sets: copies, sizes, comparisons, marks. -/
import Derived.Test.YtoipfgpggcnkmaaCP0
import Derived.Test.YtoipfgpggcnkmaaC0
import Derived.Test.YtoipfgpggcnkmaaC2
import Derived.Test.YtoipfgpggcnkmaaC3
import Derived.Test.YtoipfgpggcnkmaaC4
import Derived.Test.YtoipfgpggcnkmaaCBase
import Derived.Test.YtoipfgpggcnkmaaCDfaGood
import Derived.Test.YtoipfgpggcnkmaaCMarkSS
set_option linter.unusedVariables false
set_option linter.unusedSimpArgs false
namespace Go.Proofs.Ytoipfgpggcnkmaa.Pure
open Go.RowKit Go.Proofs.Ytoipfgpggcnkmaa.P Go.Proofs.YtoipfgpggcnkmaaW.PrintWords
structure SmallD (C : List Int) (N : List (List Int)) (F : List Bool) : Prop where
 c : C.length ≤ 1048576
 n : N.length ≤ 1048576
 f : F.length ≤ 1048576
 ns : sumLen N ≤ 1048576
theorem SmallD.row {C : List Int} {N : List (List Int)} {F : List Bool} (h : SmallD C N F) : ∀ x ∈ N, x.length ≤ 1048576 := fun x hx => by
 have := sumLen_mem hx
 have := h.ns
 omega
theorem szBoolS_neg (l : List Bool) (a : Int) (h : l.length ≤ 1000000000000000) (ha : 0 ≤ a) (ha2 : a ≤ 1000000000000) : laws_szBoolS.f l a = some (if a < (l.length : Int) then -1 else a - (l.length : Int)) := by
 unfold laws_szBoolS.f
 rw [w64 (by omega) (by omega)]
 by_cases h2 : a < (l.length : Int)
 ·rw [if_pos (by omega), if_pos h2]
 ·rw [if_neg (by omega), if_neg h2]
theorem szDfa_cases (C : List Int) (N : List (List Int)) (F : List Bool) (h1 : C.length ≤ 1000000000000000) (h2 : N.length ≤ 1000000000000000) (h3 : F.length ≤ 1000000000000000) (h4 : ∀ x ∈ N, x.length ≤ 1000000000000000) :
  ∃ r, Ev (fun k => laws_szDfa.f k C N F 1048576) r ∧ (r < 0 ∨ (0 ≤ r ∧ SmallD C N F)) := by
 unfold laws_szDfa.f
 have g1 := szIntS_neg C 1048576 h1 (by omega) (by omega)
 by_cases c1 : (1048576 : Int) < (C.length : Int)
 ·rw [if_pos c1] at g1
  exact ⟨-1, Ev.bind0 g1 (Ev.pos (by omega) (Ev.now _)), .inl (by omega)⟩
 rw [if_neg c1] at g1
 by_cases c4 : N.length ≤ 1000000000000
 ·obtain ⟨r, hr, hc⟩ := szIntSS_cases N (1048576 - (C.length : Int)) c4 h4 (by omega) (by omega)
  by_cases c5 : r < 0
  ·exact ⟨-1, Ev.bind0 g1 (Ev.neg (by omega) (Ev.bind hr (Ev.pos c5 (Ev.now _)))), .inl (by omega)⟩
  ·have hr0 : 0 ≤ r ∧ (N.length : Int) + (sumLen N : Int) ≤ 1048576 - (C.length : Int) ∧ r ≤ 1048576 - (C.length : Int) := by
    rcases hc with hc | hc
    ·omega
    ·exact hc
   have g3 := szBoolS_neg F r h3 (by omega) (by omega)
   by_cases c6 : r < (F.length : Int)
   ·rw [if_pos c6] at g3
    exact ⟨-1, Ev.bind0 g1 (Ev.neg (by omega) (Ev.bind hr (Ev.neg c5 (Ev.bind0 g3 (Ev.pos (by omega) (Ev.now _)))))), .inl (by omega)⟩
   ·rw [if_neg c6] at g3
    exact ⟨r - (F.length : Int), Ev.bind0 g1 (Ev.neg (by omega) (Ev.bind hr (Ev.neg c5 (Ev.bind0 g3 (Ev.neg (by omega) (Ev.now _)))))), .inr ⟨by omega, by omega, by omega, by omega, by omega⟩⟩
 ·refine ⟨-1, Ev.bind0 g1 (Ev.neg (by omega) (Ev.bind (a := -1) ?_ (Ev.pos (by omega) (Ev.now _)))), .inl (by omega)⟩
  unfold laws_szIntSS.f
  rw [w64 (by omega) (by omega)]
  exact Ev.pos (by omega) (Ev.now _)
theorem toBoolS_l (x0 : List Bool) (hs : x0.length ≤ 1000000000000) : ∀ (d i : Nat) (x3 : List Bool), i + d = x0.length → x3.length = x0.length → x3.take i = x0.take i → Ev (fun k => laws_toBoolS.l0 k x0 x3 (i : Int)) x0
 | 0, i, x3, hd, hl, ht => by
  refine Ev.step (fun k => laws_toBoolS.l0.eq_2 ..) (Ev.neg (by omega) (Ev.some' ?_))
  rw [List.take_of_length_le (by omega), List.take_of_length_le (by omega)] at ht
  exact ht
 | d + 1, i, x3, hd, hl, ht => by
  refine Ev.step (fun k => laws_toBoolS.l0.eq_2 ..) (Ev.pos (by omega) (Ev.pos (by omega) (Ev.pos (by omega) ?_)))
  rw [w64s (by omega), rdB_eq x0 (show i < x0.length by omega), Int.toNat_natCast]
  exact toBoolS_l x0 hs d (i + 1) _ (by omega) (by simpa using hl) (take_set_step x0 x3 i (by omega) hl ht)
theorem toBoolS (l : List Bool) (hs : l.length ≤ 1000000000000) : Ev (fun k => laws_toBoolS.f k l) l := by
 unfold laws_toBoolS.f
 exact Ev.pos (by omega) (Ev.pos (by omega) (toBoolS_l l hs l.length 0 _ (by omega) (by simp) (by simp)))
theorem eqBoolS_self (l : List Bool) (hs : l.length ≤ 1000000000000) : Ev (fun k => laws_eqBoolS.f k l l) true := by
 unfold laws_eqBoolS.f
 refine Ev.pos rfl ?_
 have h := Ev.allList l (fun _ => true) (fun k i => laws_eqBoolS.l0 k l l (i : Int))
  (Ev.step (fun k => laws_eqBoolS.l0.eq_2 ..) (Ev.neg (by omega) (Ev.now _)))
  (fun i hi v h => by
   refine Ev.step (fun k => laws_eqBoolS.l0.eq_2 ..) (Ev.pos (by omega) (Ev.pos (by omega) (Ev.pos (by omega) (Ev.neg (by simp) ?_))))
   rw [w64s (by omega)]
   simpa using h) l.length 0 (by omega)
 have e : (l.drop 0).all (fun _ => true) = true := by simp
 rw [e] at h
 exact h
theorem toDfa (C : List Int) (N : List (List Int)) (F : List Bool) (h : SmallD C N F) : Ev (fun k => laws_toDfa.f k C N F) (C, N, F) := by
 unfold laws_toDfa.f
 have h1 := h.c
 have h2 := h.n
 have h3 := h.f
 exact Ev.bind (toIntS C (by omega)) (Ev.bind (toIntSS N (by omega) (fun x hx => by have := h.row x hx; omega)) (Ev.bind (toBoolS F (by omega)) (Ev.now _)))
theorem eqDfa_self (C : List Int) (N : List (List Int)) (F : List Bool) (h : SmallD C N F) : Ev (fun k => laws_eqDfa.f k C N F C N F) true := by
 unfold laws_eqDfa.f
 have h1 := h.c
 have h2 := h.n
 have h3 := h.f
 exact Ev.bind (eqIntS_self C (by omega)) (Ev.pos rfl (Ev.bind (eqIntSS_self N (by omega) (fun x hx => by have := h.row x hx; omega)) (Ev.pos rfl (Ev.bind (eqBoolS_self F (by omega)) (Ev.pos rfl (Ev.now _))))))
def markedB (a : Int) : Nat → List Bool
 | 0 => []
 | n + 1 => (Int.tmod a 3 == 0) :: markedB (a + 1) n
theorem markedB_length : ∀ (n : Nat) (a : Int), (markedB a n).length = n
 | 0, _ => rfl
 | n + 1, a => by simp [markedB, markedB_length n]
theorem markBoolS_l : ∀ (d i : Nat) (a : Int) (xs : List Bool), i + d = xs.length → xs.length ≤ 1000000000000 → 0 ≤ a → a + (d : Int) ≤ 10000000000000 → Ev (fun k => laws_markBoolS.l0 k xs a (i : Int)) (a + (d : Int), xs.take i ++ markedB a d)
 | 0, i, a, xs, hd, hl, h0, h1 => by
  refine Ev.step (fun k => laws_markBoolS.l0.eq_2 ..) (Ev.neg (by omega) (Ev.some' ?_))
  rw [List.take_of_length_le (by omega)]
  simp [markedB]
 | d + 1, i, a, xs, hd, hl, h0, h1 => by
  have hi : i < xs.length := by omega
  refine Ev.step (fun k => laws_markBoolS.l0.eq_2 ..) (Ev.pos (by omega) (Ev.pos (by omega) ?_))
  have h := markBoolS_l d (i + 1) (a + 1) (xs.set i (Int.tmod a 3 == 0)) (by simp; omega) (by simpa using hl) (by omega) (by omega)
  rw [take_set_succ xs i _ hi, List.append_assoc] at h
  rw [w64s (by omega), w64 (by omega) (by omega), Int.toNat_natCast]
  simp only [markedB]
  rw [show a + ((d + 1 : Nat) : Int) = a + 1 + (d : Int) by omega]
  exact h
theorem markBoolS (l : List Bool) (a : Int) (hl : l.length ≤ 1000000000000) (h0 : 0 ≤ a) (h1 : a ≤ 100000000000) : Ev (fun k => laws_markBoolS.f k l a) (a + (l.length : Int), markedB a l.length) := by
 unfold laws_markBoolS.f
 exact markBoolS_l l.length 0 a l (by omega) hl h0 (by omega)
theorem heldIntSS_l (xs : List (List Int)) (hl : xs.length ≤ 1000000000000) : ∀ (M : List (List Int)) (i : Nat) (a : Int), i + M.length = xs.length → xs.drop i = markedSS a M → 0 ≤ a → a + (sumLen M : Int) ≤ 100000000000 → Ev (fun k => laws_heldIntSS.l0 k xs a (i : Int)) (a + (sumLen M : Int))
 | [], i, a, hd, he, h0, h1 => by
  refine Ev.step (fun k => laws_heldIntSS.l0.eq_2 ..) (Ev.neg (by simp at hd; omega) (Ev.some' (by simp [sumLen])))
 | x :: M, i, a, hd, he, h0, h1 => by
  rw [List.length_cons] at hd
  have hi : i < xs.length := by omega
  simp only [sumLen] at h1
  rw [drop_cons xs hi] at he
  simp only [markedSS, List.cons.injEq] at he
  refine Ev.step (fun k => laws_heldIntSS.l0.eq_2 ..) (Ev.pos (by omega) (Ev.pos (by omega) ?_))
  rw [rdL_eq xs hi, he.1]
  refine Ev.bind (heldIntS x.length a h0 (by omega) (by omega)) (Ev.neg (by omega) ?_)
  rw [w64s (by omega)]
  have h := heldIntSS_l xs hl M (i + 1) (a + (x.length : Int)) (by omega) he.2 (by omega) (by omega)
  simp only [sumLen]
  rw [show a + ((x.length + sumLen M : Nat) : Int) = a + (x.length : Int) + (sumLen M : Int) by omega]
  exact h
theorem heldIntSS (l : List (List Int)) (a : Int) (hl : l.length ≤ 1000000000000) (h0 : 0 ≤ a) (h1 : a + (sumLen l : Int) ≤ 100000000000) : Ev (fun k => laws_heldIntSS.f k (markedSS a l) a) (a + (sumLen l : Int)) := by
 unfold laws_heldIntSS.f
 exact heldIntSS_l _ (by rw [markedSS_length]; exact hl) l 0 a (by rw [markedSS_length]; omega) rfl h0 h1
theorem heldBoolS_l (xs : List Bool) (hl : xs.length ≤ 1000000000) : ∀ (d i : Nat) (a : Int), i + d = xs.length → xs.drop i = markedB a d → 0 ≤ a → a + (d : Int) ≤ 100000000000 → Ev (fun k => laws_heldBoolS.l0 k xs a (i : Int)) (a + (d : Int))
 | 0, i, a, hd, he, h0, h1 => by
  refine Ev.step (fun k => laws_heldBoolS.l0.eq_2 ..) (Ev.neg (by omega) (Ev.some' (by omega)))
 | d + 1, i, a, hd, he, h0, h1 => by
  have hi : i < xs.length := by omega
  rw [drop_cons xs hi] at he
  simp only [markedB, List.cons.injEq] at he
  refine Ev.step (fun k => laws_heldBoolS.l0.eq_2 ..) (Ev.pos (by omega) (Ev.pos (by omega) (Ev.neg ?_ ?_)))
  ·rw [rdB_eq xs hi, he.1]
   simp
  rw [w64s (by omega), w64 (by omega) (by omega)]
  have h := heldBoolS_l xs hl d (i + 1) (a + 1) (by omega) he.2 (by omega) (by omega)
  rw [show a + ((d + 1 : Nat) : Int) = a + 1 + (d : Int) by omega]
  exact h
theorem heldBoolS (n : Nat) (a : Int) (hl : n ≤ 1000000000) (h0 : 0 ≤ a) (h1 : a ≤ 1000000000) : Ev (fun k => laws_heldBoolS.f k (markedB a n) a) (a + (n : Int)) := by
 unfold laws_heldBoolS.f
 exact heldBoolS_l _ (by rw [markedB_length]; exact hl) n 0 a (by rw [markedB_length]; omega) rfl h0 (by omega)
theorem markDfa (C : List Int) (N : List (List Int)) (F : List Bool) (h : SmallD C N F) : Ev (fun k => laws_markDfa.f k C N F 1) (1 + (C.length : Int) + (sumLen N : Int) + (F.length : Int), marked 1 C.length, markedSS (1 + (C.length : Int)) N, markedB (1 + (C.length : Int) + (sumLen N : Int)) F.length) := by
 have h1 := h.c
 have h2 := h.n
 have h3 := h.f
 have h4 := h.ns
 unfold laws_markDfa.f
 exact Ev.bind (markIntS C 1 (by omega) (by omega) (by omega)) (Ev.bind (markIntSS N _ (by omega) (by omega) (by omega)) (Ev.bind (markBoolS F _ (by omega) (by omega) (by omega)) (Ev.now _)))
theorem heldDfa (C : List Int) (N : List (List Int)) (F : List Bool) (h : SmallD C N F) : Ev (fun k => laws_heldDfa.f k (marked 1 C.length) (markedSS (1 + (C.length : Int)) N) (markedB (1 + (C.length : Int) + (sumLen N : Int)) F.length) 1) (1 + (C.length : Int) + (sumLen N : Int) + (F.length : Int)) := by
 have h1 := h.c
 have h2 := h.n
 have h3 := h.f
 have h4 := h.ns
 unfold laws_heldDfa.f
 exact Ev.bind (heldIntS C.length 1 (by omega) (by omega) (by omega)) (Ev.neg (by omega) (Ev.bind (heldIntSS N _ (by omega) (by omega) (by omega)) (Ev.neg (by omega) (Ev.bind (heldBoolS F.length _ (by omega) (by omega) (by omega)) (Ev.neg (by omega) (Ev.now _))))))
end Go.Proofs.Ytoipfgpggcnkmaa.Pure
