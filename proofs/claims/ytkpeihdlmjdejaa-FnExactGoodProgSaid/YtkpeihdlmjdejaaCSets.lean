/- Plain laws of sets of runes: what is held to be a set, and what is in it. -/
import Derived.Test.YtkpeihdlmjdejaaCP0
import Derived.Test.YtkpeihdlmjdejaaC0
import Derived.Test.YtkpeihdlmjdejaaC1
import Derived.Test.YtkpeihdlmjdejaaC2
import Derived.Test.YtkpeihdlmjdejaaCLoops
import Derived.Test.YtkpeihdlmjdejaaCRunes1
set_option linter.unusedVariables false
set_option linter.unusedSimpArgs false
namespace Go.Proofs.Ytkpeihdlmjdejaa.Pure
open Go.RowKit Go.Proofs.Ytkpeihdlmjdejaa.P Go.Proofs.YtkpeihdlmjdejaaW.PrintWords
theorem Ev.allLoopK {g : Nat → Nat → Option Bool} {p : Nat → Bool} {n : Nat} {r : Bool} (h0 : Ev (fun k => g k n) r)
  (hf : ∀ i, i < n → (∀ j, j < i → p j = true) → p i = false → Ev (fun k => g k i) false) (ht : ∀ i v, i < n → (∀ j, j < i → p j = true) → p i = true → Ev (fun k => g k (i + 1)) v → Ev (fun k => g k i) v) :
  ∀ (d i : Nat), i + d = n → (∀ j, j < i → p j = true) → Ev (fun k => g k i) (allFrom p i d && r)
 | 0, i, hd, _ => by
  have : i = n := by omega
  subst this
  simpa [allFrom] using h0
 | d + 1, i, hd, hk => by
  simp only [allFrom]
  cases hp : p i
  ·simpa using hf i (by omega) hk hp
  ·rw [Bool.true_and]
   refine ht i _ (by omega) hk hp (Ev.allLoopK h0 hf ht d (i + 1) (by omega) (fun j hj => ?_))
   by_cases e : j = i
   ·rw [e]; exact hp
   ·exact hk j (by omega)
def gsAt (l : List Int) (i : Nat) : Bool :=
 inB (rd l i) (if i = 0 then 0 else if i % 2 = 0 then rd l ((i : Int) - 1) + 2 else rd l ((i : Int) - 1)) 1114111
def goodSetB (l : List Int) : Bool := allFrom (gsAt l) 0 l.length && (decide (l.length % 2 = 0) && decide (l.length ≤ 24))
theorem inB_iff {a b c : Int} : inB a b c = true ↔ b ≤ a ∧ a ≤ c := by simp [inB]
theorem gs_range (l : List Int) (n : Nat) (h : ∀ j, j < n → gsAt l j = true) : ∀ j, j < n → 0 ≤ rd l j ∧ rd l j ≤ 1114111
 | 0, hj => by
  have := h 0 hj
  unfold gsAt at this
  rw [inB_iff] at this
  simpa using this
 | j + 1, hj => by
  have h1 := gs_range l n h j (by omega)
  have := h (j + 1) hj
  unfold gsAt at this
  rw [inB_iff, if_neg (by omega)] at this
  rw [show (((j + 1 : Nat) : Int) - 1) = (j : Int) by omega] at this
  split at this <;> omega
theorem tmod2 (i : Nat) : (Int.tmod (i : Int) 2 == 0) = decide (i % 2 = 0) := by
 rw [Int.tmod_eq_emod_of_nonneg (by omega), Bool.eq_iff_iff]
 simp
 omega
theorem implGoodSet (l : List Int) (hs : l.length ≤ 1000000000000) : Ev (fun k => impl_GoodSet.f k l) (goodSetB l) := by
 unfold impl_GoodSet.f goodSetB
 refine Ev.allLoopK (g := fun k i => impl_GoodSet.l0 k l l (l.length : Int) (i : Int)) (p := gsAt l) (n := l.length) ?_ ?_ ?_ l.length 0 (by omega) (fun j hj => by omega)
 ·refine Ev.step (fun k => impl_GoodSet.l0.eq_2 ..) (Ev.neg (by omega) ?_)
  by_cases h : l.length % 2 = 0
  ·refine Ev.pos (by omega) (Ev.some' ?_)
   rw [decide_eq_true h, Bool.true_and]
   exact decide_eq_decide.2 (by omega)
  ·exact Ev.neg (by omega) (Ev.some' (by rw [decide_eq_false h, Bool.false_and]))
 ·intro i hi hk hp
  refine Ev.step (fun k => impl_GoodSet.l0.eq_2 ..) (Ev.pos (by omega) (Ev.pos (by omega) (Ev.pos (by omega) ?_)))
  unfold gsAt at hp
  by_cases h0 : i = 0
  ·refine Ev.neg (by omega) (Ev.step (fun k => impl_GoodSet.j1.eq_2 ..) (Ev.neg (by simp) (Ev.neg (by omega) (Ev.bind0 (inRange_eq _ _ _) ?_))))
   rw [if_pos h0] at hp
   rw [hp]
   exact Ev.neg (by simp) (Ev.now _)
  ·have hr := gs_range l i hk (i - 1) (by omega)
   rw [show ((i - 1 : Nat) : Int) = (i : Int) - 1 by omega] at hr
   refine Ev.pos (by omega) (Ev.step (fun k => impl_GoodSet.j1.eq_2 ..) ?_)
   rw [tmod2, w64 (x := (i : Int) - 1) (by omega) (by omega), w64 (x := rd l ((i : Int) - 1) + 2) (by omega) (by omega)]
   rw [if_neg h0] at hp
   by_cases h2 : i % 2 = 0
   ·rw [if_pos h2] at hp
    refine Ev.pos (decide_eq_true h2) (Ev.pos (by omega) (Ev.pos (by omega) (Ev.bind0 (inRange_eq _ _ _) ?_)))
    rw [hp]
    exact Ev.neg (by simp) (Ev.now _)
   ·rw [if_neg h2] at hp
    refine Ev.neg (by simp; omega) (Ev.pos (by omega) (Ev.pos (by omega) (Ev.pos (by omega) (Ev.bind0 (inRange_eq _ _ _) ?_))))
    rw [hp]
    exact Ev.neg (by simp) (Ev.now _)
 ·intro i v hi hk hp hv
  refine Ev.step (fun k => impl_GoodSet.l0.eq_2 ..) (Ev.pos (by omega) (Ev.pos (by omega) (Ev.pos (by omega) ?_)))
  unfold gsAt at hp
  have hw : wrap64 ((i : Int) + 1) = ((i + 1 : Nat) : Int) := w64s (by omega)
  by_cases h0 : i = 0
  ·refine Ev.neg (by omega) (Ev.step (fun k => impl_GoodSet.j1.eq_2 ..) (Ev.neg (by simp) (Ev.neg (by omega) (Ev.bind0 (inRange_eq _ _ _) ?_))))
   rw [if_pos h0] at hp
   rw [hp, hw]
   exact Ev.pos rfl hv
  ·have hr := gs_range l i hk (i - 1) (by omega)
   rw [show ((i - 1 : Nat) : Int) = (i : Int) - 1 by omega] at hr
   refine Ev.pos (by omega) (Ev.step (fun k => impl_GoodSet.j1.eq_2 ..) ?_)
   rw [tmod2, w64 (x := (i : Int) - 1) (by omega) (by omega), w64 (x := rd l ((i : Int) - 1) + 2) (by omega) (by omega)]
   rw [if_neg h0] at hp
   by_cases h2 : i % 2 = 0
   ·rw [if_pos h2] at hp
    refine Ev.pos (decide_eq_true h2) (Ev.pos (by omega) (Ev.pos (by omega) (Ev.bind0 (inRange_eq _ _ _) ?_)))
    rw [hp, hw]
    exact Ev.pos rfl hv
   ·rw [if_neg h2] at hp
    refine Ev.neg (by simp; omega) (Ev.pos (by omega) (Ev.pos (by omega) (Ev.pos (by omega) (Ev.bind0 (inRange_eq _ _ _) ?_))))
    rw [hp, hw]
    exact Ev.pos rfl hv
theorem all_rd {l : List Int} {p : Int → Bool} : l.all p = true ↔ ∀ j, j < l.length → p (rd l j) = true := by
 rw [List.all_eq_true]
 constructor
 ·intro h j hj
  rw [rd_eq l hj]
  exact h _ (List.getElem_mem hj)
 ·intro h x hx
  obtain ⟨j, hj, rfl⟩ := List.getElem_of_mem hx
  have := h j hj
  rwa [rd_eq l hj] at this
theorem gs_all {l : List Int} (hg : ∀ j, j < l.length → gsAt l j = true) : l.all (fun x => inB x 0 1114111) = true :=
 all_rd.2 (fun j hj => inB_iff.2 (gs_range l _ hg j hj))
def gp (l : List Int) (i : Nat) : Bool := decide (rd l ((2 * i : Nat) : Int) ≤ rd l ((2 * i + 1 : Nat) : Int)) && (decide (i = 0) || decide (rd l ((2 * i - 1 : Nat) : Int) + 2 ≤ rd l ((2 * i : Nat) : Int)))
theorem goodSet_pairs (l : List Int) (m : Nat) (hm : l.length = 2 * m) : allFrom (gsAt l) 0 l.length = (l.all (fun x => inB x 0 1114111) && allFrom (gp l) 0 m) := by
 rw [Bool.eq_iff_iff, Bool.and_eq_true, allFrom_iff, allFrom_iff]
 constructor
 ·intro h
  have hg : ∀ j, j < l.length → gsAt l j = true := fun j hj => h j (by omega) (by omega)
  refine ⟨gs_all hg, fun i _ hi => ?_⟩
  have h1 := hg (2 * i) (by omega)
  have h2 := hg (2 * i + 1) (by omega)
  unfold gsAt at h1 h2
  rw [inB_iff] at h1 h2
  rw [if_neg (by omega), if_neg (by omega)] at h2
  unfold gp
  simp only [Bool.and_eq_true, Bool.or_eq_true, decide_eq_true_eq]
  rw [show (((2 * i + 1 : Nat) : Int) - 1) = ((2 * i : Nat) : Int) by omega] at h2
  refine ⟨h2.1, ?_⟩
  by_cases h0 : i = 0
  ·exact .inl h0
  ·rw [if_neg (by omega), if_pos (by omega), show (((2 * i : Nat) : Int) - 1) = ((2 * i - 1 : Nat) : Int) by omega] at h1
   exact .inr h1.1
 ·rintro ⟨ha, hp⟩ j _ hj
  have hr := all_rd.1 ha
  have hrj := inB_iff.1 (hr j (by omega))
  unfold gsAt
  rw [inB_iff]
  refine ⟨?_, hrj.2⟩
  have hq := hp (j / 2) (by omega) (by omega)
  unfold gp at hq
  simp only [Bool.and_eq_true, Bool.or_eq_true, decide_eq_true_eq] at hq
  by_cases h0 : j = 0
  ·rw [if_pos h0]; exact hrj.1
  ·rw [if_neg h0]
   by_cases h2 : j % 2 = 0
   ·rw [if_pos h2]
    rw [show 2 * (j / 2) = j by omega] at hq
    rw [show ((j : Int) - 1) = ((j - 1 : Nat) : Int) by omega]
    rcases hq.2 with hq | hq <;> omega
   ·rw [if_neg h2]
    rw [show 2 * (j / 2) + 1 = j by omega, show 2 * (j / 2) = j - 1 by omega] at hq
    rw [show ((j : Int) - 1) = ((j - 1 : Nat) : Int) by omega]
    exact hq.1
theorem specGoodSet (l : List Int) (hs : l.length ≤ 1000000000000) : Ev (fun k => spec_GoodSet.f k l) (goodSetB l) := by
 have bad : ∀ b, goodSetB l = b → b = false → Ev (fun k => spec_GoodSet.j0 k l true) b := fun b _ h => Ev.step (fun k => spec_GoodSet.j0.eq_2 ..) (Ev.pos rfl (Ev.some' h.symm))
 unfold spec_GoodSet.f
 by_cases h1 : l.length % 2 = 0
 case neg => exact Ev.pos (by omega) (bad _ rfl (by unfold goodSetB; rw [decide_eq_false h1]; simp))
 refine Ev.neg (by omega) ?_
 by_cases h2 : l.length ≤ 24
 case neg => exact Ev.pos (by omega) (bad _ rfl (by unfold goodSetB; rw [decide_eq_false h2]; simp))
 refine Ev.neg (by omega) (Ev.bind (l1All l 0 1114111 hs) ?_)
 obtain ⟨m, hm⟩ : ∃ m, l.length = 2 * m := ⟨l.length / 2, by omega⟩
 unfold goodSetB
 rw [goodSet_pairs l m hm, decide_eq_true h1, decide_eq_true h2, Bool.and_self, Bool.and_true]
 cases ha : l.all (fun x => inB x 0 1114111)
 ·exact Ev.step (fun k => spec_GoodSet.j0.eq_2 ..) (Ev.pos rfl (Ev.now _))
 have hr := all_rd.1 ha
 have hr' : ∀ j, j < l.length → 0 ≤ rd l j ∧ rd l j ≤ 1114111 := fun j hj => inB_iff.1 (hr j hj)
 refine Ev.step (fun k => spec_GoodSet.j0.eq_2 ..) (Ev.neg (by simp) ?_)
 rw [Bool.true_and]
 have h := Ev.allLoop (g := fun k i => spec_GoodSet.l0 k l ((2 * i : Nat) : Int)) (p := gp l) (n := m) (r := true)
  (Ev.step (fun k => spec_GoodSet.l0.eq_2 ..) (Ev.neg (by omega) (Ev.now _))) ?_ ?_ m 0 (by omega)
 ·rw [Bool.and_true] at h
  exact h
 ·intro i hi hp
  have e1 : wrap64 (((2 * i : Nat) : Int) + 1) = ((2 * i + 1 : Nat) : Int) := by rw [w64 (by omega) (by omega)]; omega
  refine Ev.step (fun k => spec_GoodSet.l0.eq_2 ..) ?_
  rw [e1]
  refine Ev.pos (by omega) (Ev.pos (by omega) (Ev.pos (by omega) (Ev.pos (by omega) ?_)))
  unfold gp at hp
  by_cases c1 : rd l ((2 * i : Nat) : Int) ≤ rd l ((2 * i + 1 : Nat) : Int)
  ·rw [decide_eq_true c1, Bool.true_and, Bool.or_eq_false_iff, decide_eq_false_iff_not, decide_eq_false_iff_not] at hp
   have e2 : wrap64 (((2 * i : Nat) : Int) - 1) = ((2 * i - 1 : Nat) : Int) := by rw [w64 (by omega) (by omega)]; omega
   refine Ev.neg (by omega) (Ev.pos (by omega) ?_)
   rw [e2]
   have hq := hr' (2 * i - 1) (by omega)
   rw [w64 (x := rd l ((2 * i - 1 : Nat) : Int) + 2) (by omega) (by omega)]
   exact Ev.pos (by omega) (Ev.pos (by omega) (Ev.pos (by omega) (Ev.now _)))
  ·exact Ev.pos (by omega) (Ev.now _)
 ·intro i v hi hp hv
  have e1 : wrap64 (((2 * i : Nat) : Int) + 1) = ((2 * i + 1 : Nat) : Int) := by rw [w64 (by omega) (by omega)]; omega
  have e3 : wrap64 (((2 * i : Nat) : Int) + 2) = ((2 * (i + 1) : Nat) : Int) := by rw [w64 (by omega) (by omega)]; omega
  refine Ev.step (fun k => spec_GoodSet.l0.eq_2 ..) ?_
  rw [e1, e3]
  unfold gp at hp
  simp only [Bool.and_eq_true, Bool.or_eq_true, decide_eq_true_eq] at hp
  refine Ev.pos (by omega) (Ev.pos (by omega) (Ev.pos (by omega) (Ev.pos (by omega) (Ev.neg (by omega) ?_))))
  by_cases c2 : i = 0
  ·exact Ev.neg (by omega) hv
  ·have e2 : wrap64 (((2 * i : Nat) : Int) - 1) = ((2 * i - 1 : Nat) : Int) := by rw [w64 (by omega) (by omega)]; omega
   refine Ev.pos (by omega) ?_
   rw [e2]
   have hq := hr' (2 * i - 1) (by omega)
   rw [w64 (x := rd l ((2 * i - 1 : Nat) : Int) + 2) (by omega) (by omega)]
   exact Ev.pos (by omega) (Ev.pos (by omega) (Ev.neg (by omega) hv))
def inSetB : List Int → Int → Bool
 | a :: b :: t, r => inB r a b || inSetB t r
 | _, _ => false
def pairsL : List Int → List (Int × Int)
 | a :: b :: t => (a, b) :: pairsL t
 | _ => []
theorem drop2 (l : List Int) (i : Nat) (h : i + 1 < l.length) : l.drop i = rd l i :: rd l ((i + 1 : Nat) : Int) :: l.drop (i + 2) := by
 rw [drop_cons l (show i < l.length by omega), drop_cons l h, rd_eq l (show i < l.length by omega), rd_eq l h]
theorem drop_short (l : List Int) (i : Nat) (h : l.length ≤ i + 1) : pairsL (l.drop i) = [] ∧ ∀ r, inSetB (l.drop i) r = false := by
 have : (l.drop i).length ≤ 1 := by rw [List.length_drop]; omega
 cases hh : l.drop i with
 | nil => exact ⟨rfl, fun _ => rfl⟩
 | cons a t => cases t with
  | nil => exact ⟨rfl, fun _ => rfl⟩
  | cons b u => rw [hh] at this; simp at this
theorem pairsL_length : ∀ l : List Int, (pairsL l).length ≤ l.length
 | [] => by simp [pairsL]
 | [a] => by simp [pairsL]
 | a :: b :: t => by
  have := pairsL_length t
  simp [pairsL]
  omega
theorem spansOf_l (l : List Int) (hs : l.length ≤ 1000000000) : ∀ (d i : Nat) (out : List S187), l.length ≤ i + d → i ≤ l.length + 1 → out.length ≤ i → Ev (fun k => impl_spansOf.l0 k l out (i : Int)) (out ++ (pairsL (l.drop i)).map (fun x => ⟨x.1, x.2⟩))
 | 0, i, out, hd, hi, ho => by
  refine Ev.step (fun k => impl_spansOf.l0.eq_2 ..) (Ev.neg (by rw [w64 (by omega) (by omega)]; omega) (Ev.some' ?_))
  rw [(drop_short l i (by omega)).1]
  simp
 | d + 1, i, out, hd, hi, ho => by
  have e1 : wrap64 ((i : Int) + 1) = ((i + 1 : Nat) : Int) := w64s (by omega)
  have e2 : wrap64 ((i : Int) + 2) = ((i + 2 : Nat) : Int) := by rw [w64 (by omega) (by omega)]; omega
  refine Ev.step (fun k => impl_spansOf.l0.eq_2 ..) ?_
  rw [e1, e2]
  by_cases h : i + 1 < l.length
  ·refine Ev.pos (by omega) (Ev.pos (by omega) (Ev.pos (by omega) (Ev.pos (by omega) (Ev.pos (by omega) ?_))))
   rw [drop2 l i h]
   have := spansOf_l l hs d (i + 2) (out ++ [⟨rd l i, rd l ((i + 1 : Nat) : Int)⟩]) (by omega) (by omega) (by simp; omega)
   simpa [pairsL] using this
  ·refine Ev.neg (by omega) (Ev.some' ?_)
   rw [(drop_short l i (by omega)).1]
   simp
theorem pairs_any (r : Int) : ∀ l : List Int, ((pairsL l).map (fun x => (⟨x.1, x.2⟩ : S187))).any (fun x => inB r x.f0 x.f1) = inSetB l r
 | [] => rfl
 | [a] => rfl
 | a :: b :: t => by
  simp only [pairsL, inSetB, List.map_cons, List.any_cons]
  rw [pairs_any r t]
theorem implInSet (l : List Int) (r : Int) (hs : l.length ≤ 1000000000) : Ev (fun k => impl_inSet.f k l r) (inSetB l r) := by
 unfold impl_inSet.f
 refine Ev.bind (spansOf_l l hs l.length 0 [] (by omega) (by omega) (by simp)) ?_
 have h : slices_ContainsFunc_impl_span_173.f ([] ++ (pairsL (l.drop 0)).map (fun x => (⟨x.1, x.2⟩ : S187))) r = some (inSetB l r) := by
  unfold slices_ContainsFunc_impl_span_173.f
  rw [anyO_eq (q := fun x => inB r x.f0 x.f1) (fun x _ => by unfold impl_inSet_1.f; exact inRange_eq _ _ _), List.nil_append, List.drop_zero, pairs_any]
 exact Ev.bind0 h (Ev.now _)
theorem l4In_l (l : List Int) (r : Int) (hs : l.length ≤ 1000000000) (he : l.length % 2 = 0) : ∀ (d i : Nat), l.length ≤ i + d → i % 2 = 0 → Ev (fun k => spec_l4In.l0 k l r (i : Int)) (inSetB (l.drop i) r)
 | 0, i, hd, hi => by
  refine Ev.step (fun k => spec_l4In.l0.eq_2 ..) (Ev.neg (by omega) (Ev.some' ?_))
  rw [(drop_short l i (by omega)).2]
 | d + 1, i, hd, hi => by
  refine Ev.step (fun k => spec_l4In.l0.eq_2 ..) ?_
  by_cases h : i < l.length
  ·have e1 : wrap64 ((i : Int) + 1) = ((i + 1 : Nat) : Int) := w64s (by omega)
   have e2 : wrap64 ((i : Int) + 2) = ((i + 2 : Nat) : Int) := by rw [w64 (by omega) (by omega)]; omega
   rw [e1, e2, drop2 l i (by omega)]
   refine Ev.pos (by omega) (Ev.pos (by omega) (Ev.pos (by omega) (Ev.pos (by omega) (Ev.bind0 (l1In_eq _ _ _) ?_))))
   simp only [inSetB]
   cases hb : inB r (rd l i) (rd l ((i + 1 : Nat) : Int))
   ·refine Ev.neg (by simp) ?_
    rw [Bool.false_or]
    exact l4In_l l r hs he d (i + 2) (by omega) (by omega)
   ·exact Ev.pos rfl (Ev.some' (by simp))
  ·refine Ev.neg (by omega) (Ev.some' ?_)
   rw [(drop_short l i (by omega)).2]
theorem specInSet (l : List Int) (r : Int) (hs : l.length ≤ 1000000000) (he : l.length % 2 = 0) : Ev (fun k => spec_l4In.f k l r) (inSetB l r) := by
 unfold spec_l4In.f
 simpa using l4In_l l r hs he l.length 0 (by omega) (by omega)
end Go.Proofs.Ytkpeihdlmjdejaa.Pure
