/- Plain laws of the marks of lists of hits; hits held against themselves. -/
import Derived.Test.YtoipfgpggcnkmaaCP0
import Derived.Test.YtoipfgpggcnkmaaC5
import Derived.Test.YtoipfgpggcnkmaaC6
import Derived.Test.YtoipfgpggcnkmaaCLoops
import Derived.Test.YtoipfgpggcnkmaaCAhoRun
set_option linter.unusedVariables false
set_option linter.unusedSimpArgs false
namespace Go.Proofs.Ytoipfgpggcnkmaa.Pure
open Go.RowKit Go.Proofs.Ytoipfgpggcnkmaa.P Go.Proofs.YtoipfgpggcnkmaaW.PrintWords
theorem rdH_eq (p : List HIT) {i : Nat} (h : i < p.length) : rd_T59 p (i : Int) = p[i] := by
 unfold rd_T59
 rw [Int.toNat_natCast, List.getD_eq_getElem?_getD, List.getElem?_eq_getElem h]
 rfl
theorem eqHitS_self (p : List HIT) (hs : p.length ≤ 1000000) : Ev (fun k => laws_eqHitS.f k p p) true := by
 unfold laws_eqHitS.f
 refine Ev.pos rfl ?_
 have h := Ev.allLoop (g := fun k i => laws_eqHitS.l0 k p p (i : Int)) (p := fun _ => true) (n := p.length) (r := true)
  (Ev.step (fun k => laws_eqHitS.l0.eq_2 ..) (Ev.neg (by omega) (Ev.now _))) (fun i _ h => by simp at h)
  (fun i v hi _ h => by
   refine Ev.step (fun k => laws_eqHitS.l0.eq_2 ..) (Ev.pos (by omega) (Ev.pos (by omega) (Ev.pos (by omega) ?_)))
   rw [w64s (by omega)]
   exact Ev.bind0 (by simp [laws_eqHit.f]) (Ev.pos rfl h)) p.length 0 (by omega)
 have e : allFrom (fun _ => true) 0 p.length = true := (allFrom_iff _ _ _).2 (fun _ _ _ => rfl)
 rw [e] at h
 exact h
def markedH (a : Int) : Nat → List HIT
 | 0 => []
 | n + 1 => markedH a n ++ [⟨a + 3 * n, a + 3 * n + 1, a + 3 * n + 2⟩]
theorem markedH_length (a : Int) : ∀ n, (markedH a n).length = n
 | 0 => rfl
 | n + 1 => by simp [markedH, markedH_length a n]
theorem markedH_get (a : Int) : ∀ (n i : Nat) (h : i < (markedH a n).length), (markedH a n)[i] = ⟨a + 3 * i, a + 3 * i + 1, a + 3 * i + 2⟩
 | 0, i, h => by simp [markedH] at h
 | n + 1, i, h => by
  have hl := markedH_length a n
  by_cases hi : i < n
  ·have := markedH_get a n i (by omega)
   simp only [markedH]
   rw [List.getElem_append_left (by omega)]
   exact this
  ·have h2 : i = n := by rw [markedH_length] at h; omega
   subst h2
   simp only [markedH]
   rw [List.getElem_append_right (by omega)]
   simp [hl]
theorem take_set_snoc {α : Type} (xs m : List α) (i : Nat) (v : α) (hi : i < xs.length) (hm : m.length = i) (h : xs.take i = m) : (xs.set i v).take (i + 1) = m ++ [v] := by
 apply List.ext_getElem?
 intro j
 have h1 : (xs.take i)[j]? = m[j]? := congrArg (fun l => l[j]?) h
 by_cases hj : j < i
 ·rw [List.getElem?_take_of_lt (by omega), List.getElem?_set_ne (by omega), List.getElem?_append_left (by omega), ← h1, List.getElem?_take_of_lt hj]
 ·by_cases hji : j = i
  ·subst hji
   rw [List.getElem?_take_of_lt (by omega), List.getElem?_set_self (by omega), List.getElem?_append_right (by omega), hm]
   simp
  ·rw [List.getElem?_eq_none (by rw [List.length_take]; omega), List.getElem?_eq_none (by rw [List.length_append]; simp; omega)]
theorem rdH_set (p : List HIT) {i : Nat} (h : i < p.length) (v : HIT) : rd_T59 (p.set i v) (i : Int) = v := by
 rw [rdH_eq _ (by simpa using h), List.getElem_set_self]
theorem markHitS_l (n : Nat) (a : Int) (ha : 0 ≤ a) (ha2 : a ≤ 1000000000000) (hs : n ≤ 1000000) : ∀ (d i : Nat) (xs : List HIT), i + d = n → xs.length = n → xs.take i = markedH a i → Ev (fun k => laws_markHitS.l0 k xs (a + 3 * i) (i : Int)) (a + 3 * n, markedH a n)
 | 0, i, xs, hd, hl, ht => by
  refine Ev.step (fun k => laws_markHitS.l0.eq_2 ..) (Ev.neg (by omega) (Ev.some' ?_))
  rw [List.take_of_length_le (by omega)] at ht
  rw [ht, show i = n by omega]
 | d + 1, i, xs, hd, hl, ht => by
  refine Ev.step (fun k => laws_markHitS.l0.eq_2 ..) (Ev.pos (by omega) (Ev.pos (by omega) (Ev.bind0 rfl (Ev.bind0 rfl ?_))))
  have ml := markedH_length a i
  have hi : i < xs.length := by omega
  rw [w64 (x := a + 3 * i + 1) (by omega) (by omega), w64 (x := a + 3 * i + 1 + 1) (by omega) (by omega), w64 (x := a + 3 * i + 1 + 1 + 1) (by omega) (by omega), w64s (by omega)]
  simp only [Int.toNat_natCast, List.set_set, rdH_set xs hi]
  have ih := markHitS_l n a ha ha2 hs d (i + 1) (xs.set i ⟨a + 3 * i, a + 3 * i + 1, a + 3 * i + 1 + 1⟩) (by omega) (by simpa using hl) (by
   rw [take_set_snoc xs (markedH a i) i _ hi ml ht]
   simp only [markedH]
   rw [show a + 3 * (i : Int) + 1 + 1 = a + 3 * i + 2 by omega])
  rw [show a + 3 * ((i + 1 : Nat) : Int) = a + 3 * i + 1 + 1 + 1 by omega] at ih
  exact ih
theorem markHitS (l : List HIT) (a : Int) (ha : 0 ≤ a) (ha2 : a ≤ 1000000000000) (hs : l.length ≤ 1000000) : Ev (fun k => laws_markHitS.f k l a) (a + 3 * (l.length : Int), markedH a l.length) := by
 unfold laws_markHitS.f
 have := markHitS_l l.length a ha ha2 hs l.length 0 l (by omega) rfl rfl
 simpa using this
theorem heldHitS_l (n : Nat) (a : Int) (ha : 0 ≤ a) (ha2 : a ≤ 1000000000000) (hs : n ≤ 1000000) : ∀ (d i : Nat), i + d = n → Ev (fun k => laws_heldHitS.l0 k (markedH a n) (a + 3 * i) (i : Int)) (a + 3 * (n : Int))
 | 0, i, hd => by
  have hl := markedH_length a n
  refine Ev.step (fun k => laws_heldHitS.l0.eq_2 ..) (Ev.neg (by omega) (Ev.some' ?_))
  omega
 | d + 1, i, hd => by
  have hl := markedH_length a n
  have hi : i < (markedH a n).length := by omega
  have hg := markedH_get a n i hi
  refine Ev.step (fun k => laws_heldHitS.l0.eq_2 ..) (Ev.pos (by omega) (Ev.pos (by omega) ?_))
  rw [rdH_eq _ hi, hg, w64 (x := a + 3 * i + 1) (by omega) (by omega), w64 (x := a + 3 * i + 1 + 1) (by omega) (by omega), w64 (x := a + 3 * i + 1 + 1 + 1) (by omega) (by omega), w64s (by omega)]
  have ih := heldHitS_l n a ha ha2 hs d (i + 1) (by omega)
  rw [show a + 3 * ((i + 1 : Nat) : Int) = a + 3 * i + 1 + 1 + 1 by omega] at ih
  exact Ev.pos rfl (Ev.pos rfl (Ev.pos (by show a + 3 * (i : Int) + 2 = _; omega) ih))
theorem heldHitS (n : Nat) (a : Int) (ha : 0 ≤ a) (ha2 : a ≤ 1000000000000) (hs : n ≤ 1000000) : Ev (fun k => laws_heldHitS.f k (markedH a n) a) (a + 3 * (n : Int)) := by
 unfold laws_heldHitS.f
 have := heldHitS_l n a ha ha2 hs n 0 (by omega)
 simpa using this
end Go.Proofs.Ytoipfgpggcnkmaa.Pure
