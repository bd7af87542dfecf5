/- Plain laws of searching: the pattern that is there first. -/
import Derived.Test.YtkpeihdlmjdejaaCP0
import Derived.Test.YtkpeihdlmjdejaaC3
import Derived.Test.YtkpeihdlmjdejaaC4
import Derived.Test.YtkpeihdlmjdejaaCSearch
set_option linter.unusedVariables false
set_option linter.unusedSimpArgs false
namespace Go.Proofs.Ytkpeihdlmjdejaa.Pure
open Go.RowKit Go.Proofs.Ytkpeihdlmjdejaa.P Go.Proofs.YtkpeihdlmjdejaaW.PrintWords
def firstG (l : List Int) : List (List RE) → Int → Int → Int → Int → Bool → Int × Int × Int × Bool
 | [], _, b0, b1, b2, fd => (b0, b1, b2, fd)
 | p :: t, i, b0, b1, b2, fd =>
  if (findR p l).2.2 = true then (if fd = true then (if (findR p l).1 < b1 then firstG l t (i + 1) i (findR p l).1 (findR p l).2.1 true else firstG l t (i + 1) b0 b1 b2 true) else firstG l t (i + 1) i (findR p l).1 (findR p l).2.1 true) else firstG l t (i + 1) b0 b1 b2 fd
theorem rdLR8_eq (ps : List (List RE)) {i : Nat} (h : i < ps.length) : rd_L8 ps (i : Int) = ps[i] := by
 unfold rd_L8
 rw [Int.toNat_natCast, List.getD_eq_getElem?_getD, List.getElem?_eq_getElem h]
 rfl
theorem getD_get {α : Type} (ps : List α) (z : α) {i : Nat} (h : i < ps.length) : ps.getD ((i : Int).toNat) z = ps[i] := by
 rw [Int.toNat_natCast, List.getD_eq_getElem?_getD, List.getElem?_eq_getElem h]
 rfl
theorem implFirst_l (ps : List (List RE)) (l : List Int) (hn : ps.length ≤ 1000) (ha : ∀ p ∈ ps, Asked p l) (hs : ∀ p ∈ ps, SmallR p) : ∀ (d i : Nat) (b0 b1 b2 : Int) (fd : Bool), i + d = ps.length → Ev (fun k => impl_firstOf.l0 l ps k (i : Int) b0 b1 b2 fd) (firstG l (ps.drop i) i b0 b1 b2 fd)
 | 0, i, b0, b1, b2, fd, hd => by
  refine Ev.step (fun k => impl_firstOf.l0.eq_2 ..) (Ev.neg (by omega) (Ev.some' ?_))
  rw [List.drop_eq_nil_of_le (by omega)]
  rfl
 | d + 1, i, b0, b1, b2, fd, hd => by
  have hi : i < ps.length := by omega
  have ih := implFirst_l ps l hn ha hs d (i + 1)
  rw [show (((i + 1 : Nat)) : Int) = (i : Int) + 1 by omega] at ih
  have hp := ha _ (List.getElem_mem hi)
  have h2 := hp.p2
  have h3 := hp.l2
  refine Ev.step (fun k => impl_firstOf.l0.eq_2 ..) (Ev.pos (by omega) ?_)
  rw [getD_get ps [] hi, drop_cons ps hi]
  refine Ev.bind (implMatch hp.ok (hs _ (List.getElem_mem hi)) (by omega) (show l.length ≤ 1000 by omega)) ?_
  refine Ev.bind (find_ev (a := 0) (b := l.length) hp.p1 (by omega) (by omega) (by omega) (by omega)) ?_
  show Ev _ (firstG l (ps[i] :: ps.drop (i + 1)) i b0 b1 b2 fd)
  simp only [firstG]
  rw [show findP (cellB (tree ps[i]) l) l.length (l.length + 1 - 0) 0 = findR ps[i] l from rfl]
  by_cases c1 : (findR ps[i] l).2.2 = true
  ·rw [if_pos c1]
   refine Ev.pos c1 ?_
   by_cases c2 : fd = true
   ·rw [if_pos c2]
    refine Ev.pos c2 ?_
    by_cases c3 : (findR ps[i] l).1 < b1
    ·rw [if_pos c3]
     exact Ev.pos c3 (ih _ _ _ _ (by omega))
    ·rw [if_neg c3]
     exact Ev.neg c3 (ih _ _ _ _ (by omega))
   ·rw [if_neg c2]
    exact Ev.neg c2 (ih _ _ _ _ (by omega))
  ·rw [if_neg c1]
   exact Ev.neg c1 (ih _ _ _ _ (by omega))
def norm3 (b0 b1 b2 : Int) : Int × Int × Int × Bool := if b0 < 0 then (0, 0, 0, false) else (b0, b1, b2, true)
def firstN (l : List Int) (t : List (List RE)) (i : Int) (x : Int × Int × Int × Bool) : Int × Int × Int × Bool := firstG l t i x.1 x.2.1 x.2.2.1 x.2.2.2
theorem specFirst_l (ps : List (List RE)) (l : List Int) (hn : ps.length ≤ 1000) (ha : ∀ p ∈ ps, Asked p l) (hs : ∀ p ∈ ps, SmallR p) : ∀ (d i : Nat) (b0 b1 b2 : Int), i + d = ps.length → Ev (fun k => spec_l7First.l0 k l ps (ps.length : Int) (i : Int) b0 b1 b2) (firstN l (ps.drop i) i (norm3 b0 b1 b2))
 | 0, i, b0, b1, b2, hd => by
  refine Ev.step (fun k => spec_l7First.l0.eq_2 ..) (Ev.neg (by omega) ?_)
  rw [List.drop_eq_nil_of_le (by omega)]
  unfold firstN norm3
  simp only [firstG]
  by_cases c : b0 < 0
  ·simp only [if_pos c]
   exact Ev.now _
  ·simp only [if_neg c]
   exact Ev.now _
 | d + 1, i, b0, b1, b2, hd => by
  have hi : i < ps.length := by omega
  have ih := specFirst_l ps l hn ha hs d (i + 1)
  have hp := ha _ (List.getElem_mem hi)
  have h2 := hp.p2
  have h3 := hp.l2
  refine Ev.step (fun k => spec_l7First.l0.eq_2 ..) (Ev.pos (by omega) (Ev.pos (by omega) (Ev.pos (by omega) ?_)))
  rw [rdLR8_eq ps hi, drop_cons ps hi, w64s (by omega)]
  refine Ev.bind (specFind hp.ok (hs _ (List.getElem_mem hi)) hp.p1 (by omega)) ?_
  rw [show (((i + 1 : Nat)) : Int) = (i : Int) + 1 by omega] at ih ⊢
  by_cases c1 : (findR ps[i] l).2.2 = true
  ·refine Ev.pos c1 ?_
   by_cases c2 : b0 < 0
   ·refine Ev.pos c2 (Ev.eq' (ih _ _ _ (by omega)) ?_)
    unfold norm3
    rw [if_pos c2, if_neg (by omega)]
    unfold firstN
    simp only [firstG]
    rw [if_pos c1, if_neg (by simp)]
   ·refine Ev.neg c2 ?_
    by_cases c3 : (findR ps[i] l).1 < b1
    ·refine Ev.pos c3 (Ev.eq' (ih _ _ _ (by omega)) ?_)
     unfold norm3
     rw [if_neg c2, if_neg (by omega)]
     unfold firstN
     simp only [firstG]
     rw [if_pos c1, if_pos c3]
     simp
    ·refine Ev.neg c3 (Ev.eq' (ih _ _ _ (by omega)) ?_)
     unfold norm3
     rw [if_neg c2]
     unfold firstN
     simp only [firstG]
     rw [if_pos c1, if_neg c3]
     simp
  ·refine Ev.neg c1 (Ev.eq' (ih _ _ _ (by omega)) ?_)
   unfold firstN
   simp only [firstG]
   rw [if_neg c1]
def askedAll (ps : List (List RE)) (l : List Int) : Bool := ps.all fun p => askedB p l
def firstR (ps : List (List RE)) (l : List Int) : Int × Int × Int × Bool := if ps.length ≤ 8 then (if askedAll ps l = true then firstG l ps 0 0 0 0 false else (0, 0, 0, false)) else (0, 0, 0, false)
theorem specFirstOf_l (ps : List (List RE)) (l : List Int) (hl : l.length ≤ 1000000000) (hs : ∀ p ∈ ps, SmallR p) (hn : ps.length ≤ 8) {v : Int × Int × Int × Bool} (hv : Ev (fun k => spec_l7First.f k ps l) v ∨ askedAll ps l = false) : ∀ (d i : Nat), i + d = ps.length → Ev (fun k => spec_FirstOf.l0 k ps l ps (ps.length : Int) (i : Int)) (if (ps.drop i).all (fun p => askedB p l) = true then v else (0, 0, 0, false)) ∨ askedAll (ps.take i) l = false ∨ ((ps.drop i).all (fun p => askedB p l) = true ∧ askedAll ps l = false)
 | 0, i, hd => by
  have hi : i = ps.length := by omega
  subst hi
  rcases hv with hv | hv
  ·refine .inl ?_
   rw [List.drop_length]
   exact Ev.step (fun k => spec_FirstOf.l0.eq_2 ..) (Ev.neg (by omega) (Ev.bind hv (Ev.now _)))
  ·refine .inr (.inl ?_)
   rw [List.take_length]
   exact hv
 | d + 1, i, hd => by
  have hi : i < ps.length := by omega
  have ih := specFirstOf_l ps l hl hs hn hv d (i + 1) (by omega)
  cases ha : askedB ps[i] l
  ·refine .inl ?_
   refine Ev.step (fun k => spec_FirstOf.l0.eq_2 ..) (Ev.pos (by omega) (Ev.pos (by omega) (Ev.pos (by omega) ?_)))
   rw [rdLR8_eq ps hi]
   refine Ev.bind (specAsked _ (hs _ (List.getElem_mem hi)) l hl) ?_
   rw [ha, if_neg (by rw [drop_cons ps hi, List.all_cons, ha]; simp)]
   exact Ev.neg (by simp) (Ev.now _)
  ·rcases ih with ih | ih | ih
   ·refine .inl ?_
    refine Ev.step (fun k => spec_FirstOf.l0.eq_2 ..) (Ev.pos (by omega) (Ev.pos (by omega) (Ev.pos (by omega) ?_)))
    rw [rdLR8_eq ps hi, w64s (by omega)]
    refine Ev.bind (specAsked _ (hs _ (List.getElem_mem hi)) l hl) ?_
    rw [ha]
    refine Ev.pos rfl (Ev.eq' ih ?_)
    rw [drop_cons ps hi, List.all_cons, ha, Bool.true_and]
   ·refine .inr (.inl ?_)
    unfold askedAll at ih ⊢
    rw [List.take_succ_eq_append_getElem hi, List.all_append] at ih
    simp only [List.all_cons, List.all_nil, ha, Bool.and_true] at ih
    exact ih
   ·refine .inr (.inr ⟨?_, ih.2⟩)
    rw [drop_cons ps hi, List.all_cons, ha, Bool.true_and]
    exact ih.1
theorem specFirstOf (ps : List (List RE)) (l : List Int) (hl : l.length ≤ 1000000000) (hs : ∀ p ∈ ps, SmallR p) : Ev (fun k => spec_FirstOf.f k ps l) (firstR ps l) := by
 unfold spec_FirstOf.f firstR
 by_cases hn : ps.length ≤ 8
 case neg =>
  rw [if_neg hn]
  exact Ev.pos (by omega) (Ev.now _)
 rw [if_pos hn]
 refine Ev.neg (by omega) ?_
 cases hA : askedAll ps l
 ·have := specFirstOf_l ps l hl hs hn (v := (0, 0, 0, false)) (.inr hA) ps.length 0 (by omega)
  rcases this with h | h | h
  ·refine Ev.eq' h ?_
   simp
  ·simp [askedAll] at h
  ·rw [List.drop_zero] at h
   unfold askedAll at hA
   rw [h.1] at hA
   cases hA
 ·have hall : ∀ p ∈ ps, Asked p l := fun p hp => Asked.of (List.all_eq_true.1 hA p hp)
  have hf : Ev (fun k => spec_l7First.f k ps l) (firstG l ps 0 0 0 0 false) := by
   unfold spec_l7First.f
   exact Ev.eq' (specFirst_l ps l (by omega) hall hs ps.length 0 (-1) 0 0 (by omega)) rfl
  have := specFirstOf_l ps l hl hs hn (v := firstG l ps 0 0 0 0 false) (.inl hf) ps.length 0 (by omega)
  rcases this with h | h | h
  ·refine Ev.eq' h ?_
   unfold askedAll at hA
   rw [List.drop_zero, if_pos hA, if_pos rfl]
  ·simp [askedAll] at h
  ·rw [hA] at h
   cases h.2
theorem implFirstOf (ps : List (List RE)) (l : List Int) (hs : ∀ p ∈ ps, SmallR p) : Ev (fun k => impl_FirstOf.f k ps l) (firstR ps l) := by
 unfold impl_FirstOf.f firstR
 by_cases hn : ps.length ≤ 8
 case neg =>
  rw [if_neg hn]
  exact Ev.pos (by omega) (Ev.now _)
 rw [if_pos hn]
 refine Ev.neg (by omega) (Ev.bind (Ev.congr (fun k => areRunes l 120 k) (Ev.now _)) ?_)
 cases hr : (decide ((l.length : Int) ≤ 120) && l.all runeB)
 ·refine Ev.neg (by simp) ?_
  cases ps with
  | nil => exact Ev.some' (by simp [askedAll, firstG])
  | cons p t =>
   refine Ev.some' ?_
   rw [if_neg]
   unfold askedAll askedB
   rw [hr]
   simp
 have hca : Ev (fun k => slices_ContainsFunc_rows__impl_Re_74.f k ps) (ps.any fun p => !goodReB p) := by
  unfold slices_ContainsFunc_rows__impl_Re_74.f
  refine Ev.anyO (p := fun k x => impl_FirstOf_1.f k x) (fun p hp => ?_)
  unfold impl_FirstOf_1.f
  exact Ev.bind (implGoodRe p (hs p hp)) (Ev.now _)
 have hA : askedAll ps l = ps.all goodReB := by
  unfold askedAll askedB
  rw [hr]
  simp
 refine Ev.pos rfl (Ev.bind hca ?_)
 rw [hA, ← List.not_all_eq_any_not]
 cases hg : ps.all goodReB
 ·exact Ev.pos rfl (Ev.now _)
 ·have hall : ∀ p ∈ ps, Asked p l := fun p hp => Asked.of (by unfold askedB; rw [hr, List.all_eq_true.1 hg p hp]; rfl)
  refine Ev.neg (by simp) ?_
  have hf : Ev (fun k => impl_firstOf.f k ps l) (firstG l ps 0 0 0 0 false) := by
   unfold impl_firstOf.f
   exact Ev.pos (by omega) (implFirst_l ps l (by omega) hall hs ps.length 0 0 0 0 false (by omega))
  exact Ev.bind hf (Ev.now _)
end Go.Proofs.Ytkpeihdlmjdejaa.Pure
