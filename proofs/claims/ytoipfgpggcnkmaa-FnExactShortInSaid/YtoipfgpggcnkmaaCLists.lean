/- Plain laws of lists of lists: copies, comparisons, sizes, marks. -/
import Derived.Test.YtoipfgpggcnkmaaCP0
import Derived.Test.YtoipfgpggcnkmaaC0
import Derived.Test.YtoipfgpggcnkmaaCLoops
set_option linter.unusedVariables false
set_option linter.unusedSimpArgs false
namespace Go.Proofs.Ytoipfgpggcnkmaa.Pure
open Go.RowKit Go.Proofs.Ytoipfgpggcnkmaa.P Go.Proofs.YtoipfgpggcnkmaaW.PrintWords
theorem rdL_eq (l : List (List Int)) {i : Nat} (h : i < l.length) : rd_L1 l (i : Int) = l[i] := by
 unfold rd_L1
 rw [Int.toNat_natCast, List.getD_eq_getElem?_getD, List.getElem?_eq_getElem h]
 rfl
def sumLen : List (List Int) → Nat
 | [] => 0
 | x :: l => x.length + sumLen l
theorem sumLen_mem {x : List Int} : ∀ {l : List (List Int)}, x ∈ l → x.length ≤ sumLen l
 | [], h => by simp at h
 | y :: l, h => by
  rcases List.mem_cons.1 h with rfl | h
  ·simp [sumLen]
  ·have := sumLen_mem h
   simp only [sumLen]
   omega
theorem toIntSS_l (x0 : List (List Int)) (hs : x0.length ≤ 1000000000000) (hm : ∀ x ∈ x0, x.length ≤ 1000000000000) : ∀ (d i : Nat) (x3 : List (List Int)), i + d = x0.length → x3.length = x0.length → x3.take i = x0.take i → Ev (fun k => laws_toIntSS.l0 k x0 x3 (i : Int)) x0
 | 0, i, x3, hd, hl, ht => by
  refine Ev.step (fun k => laws_toIntSS.l0.eq_2 ..) (Ev.neg (by omega) (Ev.some' ?_))
  rw [List.take_of_length_le (by omega), List.take_of_length_le (by omega)] at ht
  exact ht
 | d + 1, i, x3, hd, hl, ht => by
  refine Ev.step (fun k => laws_toIntSS.l0.eq_2 ..) (Ev.pos (by omega) (Ev.pos (by omega) ?_))
  rw [rdL_eq x0 (show i < x0.length by omega)]
  refine Ev.bind (toIntS _ (hm _ (List.getElem_mem _))) (Ev.pos (by omega) ?_)
  rw [w64s (by omega), Int.toNat_natCast]
  exact toIntSS_l x0 hs hm d (i + 1) _ (by omega) (by simpa using hl) (take_set_step x0 x3 i (by omega) hl ht)
theorem toIntSS (l : List (List Int)) (hs : l.length ≤ 1000000000000) (hm : ∀ x ∈ l, x.length ≤ 1000000000000) : Ev (fun k => laws_toIntSS.f k l) l := by
 unfold laws_toIntSS.f
 exact Ev.pos (by omega) (Ev.pos (by omega) (toIntSS_l l hs hm l.length 0 _ (by omega) (by simp) (by simp)))
theorem eqIntSS_self (l : List (List Int)) (hs : l.length ≤ 1000000000000) (hm : ∀ x ∈ l, x.length ≤ 1000000000000) : Ev (fun k => laws_eqIntSS.f k l l) true := by
 unfold laws_eqIntSS.f
 refine Ev.pos rfl ?_
 have h := Ev.allLoop (g := fun k i => laws_eqIntSS.l0 k l l (i : Int)) (p := fun _ => true) (n := l.length) (r := true)
  (Ev.step (fun k => laws_eqIntSS.l0.eq_2 ..) (Ev.neg (by omega) (Ev.now _))) (fun i _ h => by simp at h)
  (fun i v hi _ h => by
   refine Ev.step (fun k => laws_eqIntSS.l0.eq_2 ..) (Ev.pos (by omega) (Ev.pos (by omega) (Ev.pos (by omega) ?_)))
   rw [rdL_eq l hi, w64s (by omega)]
   exact Ev.bind (eqIntS_self _ (hm _ (List.getElem_mem _))) (Ev.pos rfl h)) l.length 0 (by omega)
 have e : allFrom (fun _ => true) 0 l.length = true := (allFrom_iff _ _ _).2 (fun _ _ _ => rfl)
 rw [e] at h
 exact h
theorem szIntS_neg (l : List Int) (a : Int) (h : l.length ≤ 1000000000000000) (ha : 0 ≤ a) (ha2 : a ≤ 1000000000000) : laws_szIntS.f l a = some (if a < (l.length : Int) then -1 else a - (l.length : Int)) := by
 unfold laws_szIntS.f
 rw [w64 (by omega) (by omega)]
 by_cases h2 : a < (l.length : Int)
 ·rw [if_pos (by omega), if_pos h2]
 ·rw [if_neg (by omega), if_neg h2]
theorem szIntSS_l (x0 : List (List Int)) (hs : x0.length ≤ 1000000000000) (hm : ∀ x ∈ x0, x.length ≤ 1000000000000000) : ∀ (d i : Nat) (a : Int), i + d = x0.length → 0 ≤ a → a ≤ 1000000000000 → ∃ r, Ev (fun k => laws_szIntSS.l0 k x0 a (i : Int)) r ∧ (r < 0 ∨ (0 ≤ r ∧ (sumLen (x0.drop i) : Int) ≤ a ∧ r ≤ a - (sumLen (x0.drop i) : Int)))
 | 0, i, a, hd, h0, h1 => by
  refine ⟨a, Ev.step (fun k => laws_szIntSS.l0.eq_2 ..) (Ev.neg (by omega) (Ev.now _)), .inr ⟨h0, ?_, ?_⟩⟩ <;> rw [List.drop_eq_nil_of_le (by omega)] <;> simp [sumLen] <;> omega
 | d + 1, i, a, hd, h0, h1 => by
  have hx := hm _ (List.getElem_mem (show i < x0.length by omega))
  have hg := szIntS_neg (x0[i]'(by omega)) a hx h0 h1
  by_cases hc : a < ((x0[i]'(by omega)).length : Int)
  ·rw [if_pos hc] at hg
   refine ⟨-1, Ev.step (fun k => laws_szIntSS.l0.eq_2 ..) (Ev.pos (by omega) (Ev.pos (by omega) ?_)), .inl (by omega)⟩
   rw [rdL_eq x0 (show i < x0.length by omega)]
   exact Ev.bind0 hg (Ev.pos (by omega) (Ev.now _))
  ·rw [if_neg hc] at hg
   obtain ⟨r, hr, h⟩ := szIntSS_l x0 hs hm d (i + 1) (a - ((x0[i]'(by omega)).length : Int)) (by omega) (by omega) (by omega)
   refine ⟨r, Ev.step (fun k => laws_szIntSS.l0.eq_2 ..) (Ev.pos (by omega) (Ev.pos (by omega) ?_)), ?_⟩
   ·rw [rdL_eq x0 (show i < x0.length by omega)]
    refine Ev.bind0 hg (Ev.neg (by omega) ?_)
    rw [w64s (by omega)]
    exact hr
   ·rw [drop_cons x0 (show i < x0.length by omega)]
    simp only [sumLen]
    omega
theorem szIntSS_cases (l : List (List Int)) (a : Int) (hs : l.length ≤ 1000000000000) (hm : ∀ x ∈ l, x.length ≤ 1000000000000000) (h0 : 0 ≤ a) (h1 : a ≤ 1000000000000) : ∃ r, Ev (fun k => laws_szIntSS.f k l a) r ∧ (r < 0 ∨ (0 ≤ r ∧ (l.length : Int) + (sumLen l : Int) ≤ a ∧ r ≤ a)) := by
 unfold laws_szIntSS.f
 rw [w64 (by omega) (by omega)]
 by_cases h : a < (l.length : Int)
 ·exact ⟨-1, Ev.pos (by omega) (Ev.now _), .inl (by omega)⟩
 ·obtain ⟨r, hr, hh⟩ := szIntSS_l l hs hm l.length 0 (a - (l.length : Int)) (by omega) (by omega) (by omega)
  refine ⟨r, Ev.neg (by omega) hr, ?_⟩
  rw [List.drop_zero] at hh
  omega
end Go.Proofs.Ytoipfgpggcnkmaa.Pure
