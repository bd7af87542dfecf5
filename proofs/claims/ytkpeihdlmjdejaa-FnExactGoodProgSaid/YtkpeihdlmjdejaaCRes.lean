/- Plain laws of patterns: what is held to be a pattern, and a pattern's parts. -/
import Derived.Test.YtkpeihdlmjdejaaCP0
import Derived.Test.YtkpeihdlmjdejaaC0
import Derived.Test.YtkpeihdlmjdejaaC1
import Derived.Test.YtkpeihdlmjdejaaC2
import Derived.Test.YtkpeihdlmjdejaaCSets
set_option linter.unusedVariables false
set_option linter.unusedSimpArgs false
namespace Go.Proofs.Ytkpeihdlmjdejaa.Pure
open Go.RowKit Go.Proofs.Ytkpeihdlmjdejaa.P Go.Proofs.YtkpeihdlmjdejaaW.PrintWords
abbrev RE := S89
def arity (op : Int) : Int := if op = 1 then 0 else if op = 2 then 0 else if op = 6 then 1 else if op = 7 then 1 else if op = 3 then 2 else if op = 4 then 2 else if op = 5 then 2 else -1
theorem specArity (op : Int) : Ev (fun k => spec_l5Arity.f k op) (arity op) := by
 unfold spec_l5Arity.f arity
 by_cases h1 : op = 1
 ·subst h1
  exact Ev.pos rfl (Ev.step (fun k => spec_l5Arity.j0.eq_2 ..) (Ev.pos rfl (Ev.now _)))
 rw [if_neg h1]
 refine Ev.neg h1 (Ev.step (fun k => spec_l5Arity.j0.eq_2 ..) ?_)
 by_cases h2 : op = 2
 ·subst h2
  exact Ev.pos rfl (Ev.now _)
 rw [if_neg h2]
 refine Ev.neg (by simpa using h2) ?_
 by_cases h6 : op = 6
 ·subst h6
  exact Ev.pos rfl (Ev.step (fun k => spec_l5Arity.j1.eq_2 ..) (Ev.pos rfl (Ev.now _)))
 rw [if_neg h6]
 refine Ev.neg h6 (Ev.step (fun k => spec_l5Arity.j1.eq_2 ..) ?_)
 by_cases h7 : op = 7
 ·subst h7
  exact Ev.pos rfl (Ev.now _)
 rw [if_neg h7]
 refine Ev.neg (by simpa using h7) ?_
 by_cases h3 : op = 3
 ·exact Ev.eq' (Ev.pos h3 (Ev.now _)) (if_pos h3).symm
 refine Ev.neg h3 ?_
 rw [if_neg h3]
 by_cases h4 : op = 4
 ·exact Ev.eq' (Ev.pos h4 (Ev.now _)) (if_pos h4).symm
 refine Ev.neg h4 ?_
 rw [if_neg h4]
 by_cases h5 : op = 5
 ·exact Ev.eq' (Ev.pos h5 (Ev.now _)) (if_pos h5).symm
 ·exact Ev.eq' (Ev.neg h5 (Ev.now _)) (if_neg h5).symm
theorem implArity (op : Int) : Ev (fun k => impl_partsOf.f k op) (arity op) := by
 unfold impl_partsOf.f arity
 by_cases h1 : op = 1
 ·subst h1
  exact Ev.pos rfl (Ev.step (fun k => impl_partsOf.j0.eq_2 ..) (Ev.pos rfl (Ev.now _)))
 rw [if_neg h1]
 refine Ev.neg h1 (Ev.step (fun k => impl_partsOf.j0.eq_2 ..) ?_)
 by_cases h2 : op = 2
 ·subst h2
  exact Ev.pos rfl (Ev.now _)
 rw [if_neg h2]
 refine Ev.neg (by simpa using h2) ?_
 by_cases h6 : op = 6
 ·subst h6
  exact Ev.pos rfl (Ev.step (fun k => impl_partsOf.j1.eq_2 ..) (Ev.pos rfl (Ev.now _)))
 rw [if_neg h6]
 refine Ev.neg h6 (Ev.step (fun k => impl_partsOf.j1.eq_2 ..) ?_)
 by_cases h7 : op = 7
 ·subst h7
  exact Ev.pos rfl (Ev.now _)
 rw [if_neg h7]
 refine Ev.neg (by simpa using h7) ?_
 by_cases h3 : op = 3
 ·exact Ev.eq' (Ev.pos h3 (Ev.now _)) (if_pos h3).symm
 refine Ev.neg h3 ?_
 rw [if_neg h3]
 by_cases h4 : op = 4
 ·exact Ev.eq' (Ev.pos h4 (Ev.now _)) (if_pos h4).symm
 refine Ev.neg h4 ?_
 rw [if_neg h4]
 by_cases h5 : op = 5
 ·exact Ev.eq' (Ev.pos h5 (Ev.now _)) (if_pos h5).symm
 ·exact Ev.eq' (Ev.neg h5 (Ev.now _)) (if_neg h5).symm
theorem arity_cases (op : Int) : arity op = -1 ∨ arity op = 0 ∨ arity op = 1 ∨ arity op = 2 := by
 unfold arity
 repeat' split
 all_goals omega
structure SmallR (p : List RE) : Prop where
 len : p.length ≤ 1048576
 sets : ∀ x ∈ p, x.f1.length ≤ 1048576
theorem rdR_eq (p : List RE) {i : Nat} (h : i < p.length) : rd_T89 p (i : Int) = p[i] := by
 unfold rd_T89
 rw [Int.toNat_natCast, List.getD_eq_getElem?_getD, List.getElem?_eq_getElem h]
 rfl
def setOk (x : RE) : Bool := goodSetB x.f1 && (x.f1.all runeB && (decide (x.f0 = 2) || decide (x.f1.length = 0)))
def nodeB (x : RE) : Bool := decide (0 ≤ arity x.f0) && setOk x
theorem goodSet_len {l : List Int} (h : goodSetB l = true) : l.length ≤ 24 ∧ l.length % 2 = 0 := by
 unfold goodSetB at h
 simp only [Bool.and_eq_true, decide_eq_true_eq] at h
 omega
theorem specNode (x : RE) (hs : x.f1.length ≤ 1048576) : Ev (fun k => spec_l5Node.f k x.f0 x.f1) (nodeB x) := by
 have tl : ∀ b : Bool, (b = true → decide (x.f0 = 2) || decide (x.f1.length = 0) = true) → Ev (fun k => (spec_GoodSet.f k x.f1).bind fun t => if t = true then (spec_l1AllRunes.f k x.f1).bind fun t => some t else some false) (goodSetB x.f1 && (x.f1.all runeB && true)) := fun _ _ => by
  refine Ev.bind (specGoodSet _ (by omega)) ?_
  cases hg : goodSetB x.f1
  ·exact Ev.neg (by simp) (Ev.now _)
  ·have := (goodSet_len hg).1
   refine Ev.pos rfl (Ev.bind (l1AllRunes _ (by omega)) (Ev.some' ?_))
   rw [decide_eq_true (show x.f1.length ≤ 1000 by omega)]
   simp
 unfold spec_l5Node.f nodeB setOk
 refine Ev.bind (specArity _) ?_
 by_cases h : arity x.f0 < 0
 ·exact Ev.pos h (Ev.some' (by rw [decide_eq_false (by omega), Bool.false_and]))
 rw [decide_eq_true (show 0 ≤ arity x.f0 by omega), Bool.true_and]
 refine Ev.neg h ?_
 by_cases h2 : x.f0 = 2
 ·rw [decide_eq_true h2, Bool.true_or]
  exact Ev.pos h2 (tl false (by simp))
 refine Ev.neg h2 ?_
 rw [decide_eq_false h2, Bool.false_or]
 by_cases h3 : x.f1.length = 0
 ·rw [decide_eq_true h3]
  exact Ev.neg (by omega) (tl false (by simp))
 ·rw [decide_eq_false h3]
  exact Ev.pos (by omega) (Ev.some' (by simp))
def pileB : List RE → Int → Bool
 | [], n => n == 1
 | x :: t, n => nodeB x && (decide (arity x.f0 ≤ n) && pileB t (n + 1 - arity x.f0))
theorem specGood_l (p : List RE) (hp : SmallR p) : ∀ (d i : Nat) (n : Int), i + d = p.length → 0 ≤ n → n ≤ i → Ev (fun k => spec_l5Good.l0 k n p (p.length : Int) (i : Int)) (pileB (p.drop i) n)
 | 0, i, n, hd, h0, h1 => by
  refine Ev.step (fun k => spec_l5Good.l0.eq_2 ..) (Ev.neg (by omega) (Ev.some' ?_))
  rw [List.drop_eq_nil_of_le (by omega)]
  rfl
 | d + 1, i, n, hd, h0, h1 => by
  have hlen := hp.len
  refine Ev.step (fun k => spec_l5Good.l0.eq_2 ..) (Ev.pos (by omega) (Ev.pos (by omega) (Ev.pos (by omega) ?_)))
  rw [rdR_eq p (show i < p.length by omega), drop_cons p (show i < p.length by omega), w64s (by omega)]
  generalize hx : p[i]'(by omega) = x
  have hxs : x.f1.length ≤ 1048576 := hp.sets x (by rw [← hx]; exact List.getElem_mem _)
  refine Ev.bind (specNode x hxs) ?_
  simp only [pileB]
  cases hn : nodeB x
  ·exact Ev.neg (by simp) (Ev.some' (by simp))
  refine Ev.pos rfl (Ev.bind (specArity _) ?_)
  have ha : 0 ≤ arity x.f0 := by unfold nodeB at hn; simp at hn; exact hn.1
  have hc := arity_cases x.f0
  by_cases hle : arity x.f0 ≤ n
  ·refine Ev.neg (by omega) (Ev.bind (specArity _) ?_)
   rw [decide_eq_true hle, Bool.true_and, Bool.true_and, w64 (x := 1 - arity x.f0) (by omega) (by omega), w64 (x := n + (1 - arity x.f0)) (by omega) (by omega), show n + (1 - arity x.f0) = n + 1 - arity x.f0 by omega]
   exact specGood_l p hp d (i + 1) _ (by omega) (by omega) (by omega)
  ·rw [decide_eq_false hle]
   exact Ev.pos (by omega) (Ev.some' (by simp))
def goodReB (p : List RE) : Bool := decide (p.length ≤ 40) && pileB p 0
theorem specGoodRe (p : List RE) (hp : SmallR p) : Ev (fun k => spec_GoodRe.f k p) (goodReB p) := by
 unfold spec_GoodRe.f goodReB
 by_cases h : p.length ≤ 40
 ·rw [decide_eq_true h, Bool.true_and]
  have := specGood_l p hp p.length 0 0 (by omega) (by omega) (by omega)
  unfold spec_l5Good.f
  exact Ev.pos (by omega) (Ev.bind this (Ev.now _))
 ·rw [decide_eq_false h, Bool.false_and]
  exact Ev.neg (by omega) (Ev.now _)
theorem Ev.anyO {α : Type} {p : Nat → α → Option Bool} {q : α → Bool} : ∀ {l : List α}, (∀ x ∈ l, Ev (fun k => p k x) (q x)) → Ev (fun k => anyO (p k) l) (l.any q)
 | [], _ => Ev.some' rfl
 | x :: l, h => by
  obtain ⟨K1, h1⟩ := h x List.mem_cons_self
  obtain ⟨K2, h2⟩ := Ev.anyO (l := l) (p := p) (q := q) (fun y hy => h y (List.mem_cons_of_mem _ hy))
  refine ⟨max K1 K2, fun k hk => ?_⟩
  have e1 := h1 k (by omega)
  have e2 := h2 k (by omega)
  obtain ⟨hs, hr⟩ := anyO_some e2
  show P.anyO (p k) (x :: l) = _
  unfold P.anyO
  rw [if_pos (by
   simp only [List.all_cons, Bool.and_eq_true]
   refine ⟨by rw [show p k x = some (q x) from e1]; rfl, ?_⟩
   rw [List.all_eq_true]
   exact hs)]
  simp only [List.any_cons]
  rw [show p k x = some (q x) from e1, hr]
  rfl
theorem implNode (x : RE) (hs : x.f1.length ≤ 1048576) : Ev (fun k => impl_GoodRe_1.f k x.f0 x.f1) (!setOk x) := by
 unfold impl_GoodRe_1.f setOk
 refine Ev.bind (implGoodSet _ (by omega)) ?_
 cases hg : goodSetB x.f1
 ·exact Ev.neg (by simp) (Ev.now _)
 have ha : ∀ k, slices_ContainsFunc_int_int_120.f k x.f1 = some (!x.f1.all runeB) := fun k => by
  unfold slices_ContainsFunc_int_int_120.f
  rw [anyO_eq (q := fun r => !runeB r) (fun r _ => by unfold impl_GoodRe_1_1.f; rw [implGoodRune_eq]; rfl), List.not_all_eq_any_not]
 refine Ev.pos rfl (Ev.bind (Ev.congr ha (Ev.now _)) ?_)
 cases hr : x.f1.all runeB
 ·exact Ev.pos rfl (Ev.now _)
 refine Ev.neg (by simp) ?_
 by_cases h2 : x.f0 = 2
 ·exact Ev.pos h2 (Ev.some' (by simp [h2]))
 ·refine Ev.neg h2 (Ev.some' ?_)
  rw [decide_eq_false h2, Bool.true_and, Bool.true_and, Bool.false_or, ← decide_not]
  exact decide_eq_decide.2 (by omega)
def partsL : List RE → Int → List Int → List (List Int) → List (List Int) × Bool
 | [], _, pile, out => (out, (pile.length : Int) == 1)
 | x :: t, i, pile, out => if arity x.f0 < 0 ∨ (pile.length : Int) < arity x.f0 then ([], false) else partsL t (i + 1) (pile.take (pile.length - (arity x.f0).toNat) ++ [i]) (out ++ [pile.drop (pile.length - (arity x.f0).toNat)])
theorem implParts_l (p : List RE) (hp : p.length ≤ 1048576) : ∀ (d i : Nat) (pile : List Int) (out : List (List Int)), i + d = p.length → pile.length ≤ i → out.length ≤ i → Ev (fun k => impl_parts.l0 k out pile p (p.length : Int) (i : Int)) (partsL (p.drop i) i pile out)
 | 0, i, pile, out, hd, h1, h2 => by
  refine Ev.step (fun k => impl_parts.l0.eq_2 ..) (Ev.neg (by omega) (Ev.some' ?_))
  rw [List.drop_eq_nil_of_le (by omega)]
  rfl
 | d + 1, i, pile, out, hd, h1, h2 => by
  refine Ev.step (fun k => impl_parts.l0.eq_2 ..) (Ev.pos (by omega) (Ev.pos (by omega) (Ev.pos (by omega) ?_)))
  rw [rdR_eq p (show i < p.length by omega), drop_cons p (show i < p.length by omega), w64s (by omega)]
  generalize p[i]'(by omega) = x
  refine Ev.bind (implArity _) ?_
  simp only [partsL]
  by_cases hn : arity x.f0 < 0
  ·rw [if_pos (.inl hn)]
   exact Ev.pos hn (Ev.now _)
  refine Ev.neg hn ?_
  by_cases hg : (pile.length : Int) < arity x.f0
  ·rw [if_pos (.inr hg)]
   exact Ev.pos hg (Ev.now _)
  rw [if_neg (by omega)]
  have hw : wrap64 ((pile.length : Int) - arity x.f0) = ((pile.length - (arity x.f0).toNat : Nat) : Int) := by rw [w64 (by omega) (by omega)]; omega
  rw [hw, Int.toNat_natCast]
  refine Ev.neg (by omega) (Ev.pos (by omega) (Ev.pos (by omega) (Ev.bind0 (a := pile.drop (pile.length - (arity x.f0).toNat)) ?_ (Ev.pos (by omega) (Ev.bind0 rfl (Ev.pos ?_ ?_))))))
  ·unfold slices_Clone_int_int.f
   rw [if_pos (by rw [List.length_drop]; omega)]
  ·rw [List.length_take]; omega
  ·exact implParts_l p hp d (i + 1) _ _ (by omega) (by rw [List.length_append, List.length_take]; simp; omega) (by rw [List.length_append]; simp; omega)
def partsR (p : List RE) : List (List Int) × Bool := partsL p 0 [] []
theorem implParts (p : List RE) (hp : p.length ≤ 1048576) : Ev (fun k => impl_parts.f k p) (partsR p) := by
 unfold impl_parts.f partsR
 simpa using implParts_l p hp p.length 0 [] [] (by omega) (by simp) (by simp)
theorem pile_parts : ∀ (t : List RE) (i : Int) (pile : List Int) (out : List (List Int)), pileB t pile.length = (t.all setOk && (partsL t i pile out).2)
 | [], i, pile, out => by simp [pileB, partsL]
 | x :: t, i, pile, out => by
  have hc := arity_cases x.f0
  simp only [pileB, partsL, nodeB, List.all_cons]
  by_cases hn : arity x.f0 < 0
  ·rw [if_pos (.inl hn), decide_eq_false (by omega)]
   simp
  rw [decide_eq_true (show 0 ≤ arity x.f0 by omega), Bool.true_and]
  by_cases hg : (pile.length : Int) < arity x.f0
  ·rw [if_pos (.inr hg), decide_eq_false (show ¬ arity x.f0 ≤ (pile.length : Int) by omega)]
   simp
  rw [if_neg (by omega), decide_eq_true (show arity x.f0 ≤ (pile.length : Int) by omega), Bool.true_and]
  have ih := pile_parts t (i + 1) (pile.take (pile.length - (arity x.f0).toNat) ++ [i]) (out ++ [pile.drop (pile.length - (arity x.f0).toNat)])
  rw [show (((pile.take (pile.length - (arity x.f0).toNat) ++ [i]).length : Nat) : Int) = (pile.length : Int) + 1 - arity x.f0 by rw [List.length_append, List.length_take]; simp; omega] at ih
  rw [ih, Bool.and_assoc]
theorem implGoodRe (p : List RE) (hp : SmallR p) : Ev (fun k => impl_GoodRe.f k p) (goodReB p) := by
 have hlen := hp.len
 unfold impl_GoodRe.f goodReB
 refine Ev.bind0 (inRange_eq _ _ _) ?_
 have hpp := pile_parts p 0 [] []
 rw [show ((([] : List Int).length : Nat) : Int) = 0 from rfl] at hpp
 by_cases h : p.length ≤ 40
 ·by_cases h1 : 1 ≤ p.length
  ·rw [inB_iff.2 (by omega), decide_eq_true h, Bool.true_and]
   have ha : Ev (fun k => slices_ContainsFunc_impl_Re_118.f k p) (p.any fun x => !setOk x) := by
    unfold slices_ContainsFunc_impl_Re_118.f
    exact Ev.anyO (p := fun k (x : RE) => impl_GoodRe_1.f k x.f0 x.f1) (q := fun x => !setOk x) (fun x hx => implNode x (hp.sets x hx))
   refine Ev.pos rfl (Ev.bind ha ?_)
   rw [hpp, ← List.not_all_eq_any_not]
   cases hs : p.all setOk
   ·exact Ev.pos rfl (Ev.now _)
   ·exact Ev.neg (by simp) (Ev.bind (implParts p hlen) (Ev.some' (by simp [partsR])))
  ·obtain rfl : p = [] := List.eq_nil_of_length_eq_zero (by omega)
   exact Ev.neg (by simp [inB]) (Ev.some' (by simp [pileB]))
 ·rw [decide_eq_false h, Bool.false_and]
  exact Ev.neg (by simp [inB]; omega) (Ev.now _)
theorem goodRe_parts {p : List RE} (h : goodReB p = true) : p.length ≤ 40 ∧ 1 ≤ p.length ∧ pileB p 0 = true ∧ p.all setOk = true ∧ (partsR p).2 = true := by
 unfold goodReB at h
 rw [Bool.and_eq_true, decide_eq_true_eq] at h
 have hpp := pile_parts p 0 [] []
 rw [show ((([] : List Int).length : Nat) : Int) = 0 from rfl, h.2] at hpp
 have h2 := hpp.symm
 rw [Bool.and_eq_true] at h2
 refine ⟨h.1, ?_, h.2, h2.1, h2.2⟩
 rcases Nat.eq_zero_or_pos p.length with h0 | h0
 ·obtain rfl : p = [] := List.eq_nil_of_length_eq_zero h0
  simp [pileB] at h
 ·exact h0
end Go.Proofs.Ytkpeihdlmjdejaa.Pure
