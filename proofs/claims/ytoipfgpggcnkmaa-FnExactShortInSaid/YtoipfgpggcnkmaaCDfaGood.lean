/- Plain laws of machines of sets: what is held to be good. -/
import Derived.Test.YtoipfgpggcnkmaaCP0
import Derived.Test.YtoipfgpggcnkmaaC1
import Derived.Test.YtoipfgpggcnkmaaC2
import Derived.Test.YtoipfgpggcnkmaaCRising
import Derived.Test.YtoipfgpggcnkmaaCLists
set_option linter.unusedVariables false
set_option linter.unusedSimpArgs false
namespace Go.Proofs.Ytoipfgpggcnkmaa.Pure
open Go.RowKit Go.Proofs.Ytoipfgpggcnkmaa.P Go.Proofs.YtoipfgpggcnkmaaW.PrintWords
theorem Ev.allList {α : Type} (l : List α) (p : α → Bool) (g : Nat → Nat → Option Bool) (h0 : Ev (fun k => g k l.length) true)
  (hs : ∀ (i : Nat) (hi : i < l.length) (v : Bool), Ev (fun k => g k (i + 1)) v → Ev (fun k => g k i) (p (l[i]'hi) && v)) : ∀ (d i : Nat), i + d = l.length → Ev (fun k => g k i) ((l.drop i).all p)
 | 0, i, hd => by
  have e : i = l.length := by omega
  subst e
  rw [List.drop_length]
  exact h0
 | d + 1, i, hd => by
  rw [drop_cons l (show i < l.length by omega), List.all_cons]
  exact hs i (by omega) _ (Ev.allList l p g h0 hs d (i + 1) (by omega))
def rowOk (c n : Int) (x : List Int) : Bool := decide ((x.length : Int) = c + 1) && x.all (fun a => inB a 0 (n - 1))
def goodDfaB (C : List Int) (N : List (List Int)) (F : List Bool) : Bool :=
 inB N.length 1 60 && (decide ((F.length : Int) = N.length) && (decide ((C.length : Int) ≤ 40) && (risingB C 1 1114111 && N.all (rowOk C.length N.length))))
theorem l1All (l : List Int) (lo hi : Int) (hs : l.length ≤ 1000000000000) : Ev (fun k => spec_l1All.f k l lo hi) (l.all fun a => inB a lo hi) := by
 unfold spec_l1All.f
 have h := Ev.allList l (fun a => inB a lo hi) (fun k i => spec_l1All.l0 k lo hi l (l.length : Int) (i : Int))
  (Ev.step (fun k => spec_l1All.l0.eq_2 ..) (Ev.neg (by omega) (Ev.now _)))
  (fun i hi' v hv => by
   refine Ev.step (fun k => spec_l1All.l0.eq_2 ..) (Ev.pos (by omega) (Ev.pos (by omega) (Ev.pos (by omega) (Ev.bind0 (l1In_eq _ _ _) ?_))))
   rw [rd_eq l hi', w64s (by omega)]
   cases inB l[i] lo hi
   ·exact Ev.neg (by simp) (Ev.some' (by simp))
   ·exact Ev.pos rfl (by simpa using hv)) l.length 0 (by omega)
 rw [List.drop_zero] at h
 exact h
theorem specGoodDfa (C : List Int) (N : List (List Int)) (F : List Bool) (hC : C.length ≤ 1000000000000) (hN : N.length ≤ 1000000000000) (hm : ∀ x ∈ N, x.length ≤ 1000000000000) : Ev (fun k => spec_GoodDfa.f k C N F) (goodDfaB C N F) := by
 have bad : Ev (fun k => spec_GoodDfa.j0 k (N.length : Int) true C N F) false := Ev.step (fun k => spec_GoodDfa.j0.eq_2 ..) (Ev.pos rfl (Ev.now _))
 unfold spec_GoodDfa.f goodDfaB
 refine Ev.bind0 (l1In_eq _ _ _) ?_
 cases c0 : inB N.length 1 60
 ·exact Ev.neg (by simp) bad
 refine Ev.pos rfl ?_
 rw [Bool.true_and]
 by_cases c1 : (F.length : Int) = N.length
 ·rw [decide_eq_true c1, Bool.true_and]
  refine Ev.pos c1 ?_
  by_cases c2 : (C.length : Int) ≤ 40
  ·rw [decide_eq_true c2, Bool.true_and]
   refine Ev.neg (by omega) (Ev.bind (l1Rising C 1 1114111 hC) ?_)
   cases c3 : risingB C 1 1114111
   ·exact bad
   ·rw [Bool.true_and]
    refine Ev.step (fun k => spec_GoodDfa.j0.eq_2 ..) (Ev.neg (by simp) ?_)
    have h := Ev.allList N (rowOk C.length N.length) (fun k i => spec_GoodDfa.l0 k (N.length : Int) N (N.length : Int) (i : Int) C N F)
     (Ev.step (fun k => spec_GoodDfa.l0.eq_2 ..) (Ev.neg (by omega) (Ev.now _)))
     (fun i hi v hv => by
      refine Ev.step (fun k => spec_GoodDfa.l0.eq_2 ..) (Ev.pos (by omega) (Ev.pos (by omega) (Ev.pos (by omega) ?_)))
      rw [rdL_eq N hi, w64s (by omega), w64s (by omega), w64 (x := (N.length : Int) - 1) (by omega) (by omega)]
      unfold rowOk
      by_cases c4 : ((N[i]).length : Int) = ((C.length + 1 : Nat) : Int)
      ·refine Ev.pos c4 (Ev.bind (l1All _ _ _ (hm _ (List.getElem_mem hi))) ?_)
       rw [decide_eq_true (show ((N[i]).length : Int) = (C.length : Int) + 1 by omega), Bool.true_and]
       cases (N[i]).all fun a => inB a 0 ((N.length : Int) - 1)
       ·exact Ev.neg (by simp) (Ev.some' (by simp))
       ·exact Ev.pos rfl (by simpa using hv)
      ·refine Ev.neg c4 (Ev.some' ?_)
       rw [decide_eq_false (show ¬ ((N[i]).length : Int) = (C.length : Int) + 1 by omega)]
       simp) N.length 0 (by omega)
    rw [List.drop_zero] at h
    exact h
  ·exact Ev.pos (by omega) (Ev.eq' bad (by simp [c2]))
 ·exact Ev.neg c1 (Ev.eq' bad (by simp [c1]))
theorem goodDfa1 (x C : List Int) (n : Int) (hC : C.length ≤ 1000000000000) (h1 : -1000000000000 ≤ n) (h2 : n ≤ 1000000000000) : impl_GoodDfa_1.f x C n = some (!rowOk C.length n x) := by
 unfold impl_GoodDfa_1.f rowOk
 rw [w64s (by omega)]
 by_cases c : (x.length : Int) = ((C.length + 1 : Nat) : Int)
 ·rw [if_pos c, decide_eq_true (show (x.length : Int) = (C.length : Int) + 1 by omega), Bool.true_and]
  unfold impl_GoodDfa_1_1.all
  rw [anyO_eq (q := fun a => !inB a 0 (n - 1)) (fun a _ => by unfold impl_GoodDfa_1_1.f; rw [isPlace_eq _ _ h1 h2]; rfl), List.not_all_eq_any_not]
 ·rw [if_neg c, decide_eq_false (show ¬ (x.length : Int) = (C.length : Int) + 1 by omega)]
  rfl
theorem implGoodDfa (C : List Int) (N : List (List Int)) (F : List Bool) (hC : C.length ≤ 1000000000000) (hN : N.length ≤ 1000000000000) : Ev (fun k => impl_GoodDfa.f k C N F) (goodDfaB C N F) := by
 unfold impl_GoodDfa.f goodDfaB
 by_cases c2 : (C.length : Int) ≤ 40
 ·refine Ev.pos c2 (Ev.bind (isRising C 1 1114111 hC) ?_)
  rw [decide_eq_true c2, Bool.true_and]
  cases c3 : risingB C 1 1114111
  ·exact Ev.neg (by simp) (Ev.some' (by simp))
  refine Ev.pos rfl (Ev.bind0 (inRange_eq' _ _ _) ?_)
  cases c0 : inB N.length 1 60
  ·exact Ev.neg (by simp) (Ev.some' (by simp))
  refine Ev.pos rfl ?_
  rw [Bool.true_and, Bool.true_and]
  by_cases c1 : (F.length : Int) = N.length
  ·rw [decide_eq_true c1, Bool.true_and]
   refine Ev.pos c1 (Ev.bind0 (a := N.any fun x => !rowOk C.length N.length x) ?_ (Ev.some' ?_))
   ·unfold slices_ContainsFunc_rows_int_72.f
    exact anyO_eq (fun x _ => goodDfa1 x C N.length hC (by omega) (by omega))
   ·rw [← List.not_all_eq_any_not, Bool.not_not]
  ·exact Ev.neg c1 (Ev.some' (by simp [c1]))
 ·exact Ev.neg c2 (Ev.some' (by simp [c2]))
theorem goodDfa_small {C : List Int} {N : List (List Int)} {F : List Bool} (h : goodDfaB C N F = true) : C.length ≤ 40 ∧ N.length ≤ 60 ∧ F.length = N.length ∧ ∀ x ∈ N, x.length ≤ 41 := by
 unfold goodDfaB at h
 simp only [Bool.and_eq_true, decide_eq_true_eq] at h
 obtain ⟨h1, h2, h3, h4, h5⟩ := h
 unfold inB at h1
 simp only [Bool.and_eq_true, decide_eq_true_eq] at h1
 refine ⟨by omega, by omega, by omega, fun x hx => ?_⟩
 have h6 := List.all_eq_true.1 h5 x hx
 unfold rowOk at h6
 simp only [Bool.and_eq_true, decide_eq_true_eq] at h6
 omega
theorem rdB_eq (l : List Bool) {i : Nat} (h : i < l.length) : rdOf false l (i : Int) = l[i] := by
 unfold rdOf
 rw [Int.toNat_natCast, List.getD_eq_getElem?_getD, List.getElem?_eq_getElem h]
 rfl
theorem l1Own_eq (l : List Int) (h : l.length ≤ 1000000000000) : spec_l1Own.f l = some l := by
 unfold spec_l1Own.f
 rw [Option.bind_some, if_pos (by simp; omega), List.nil_append]
theorem clone_eq (l : List Int) (h : l.length ≤ 1000000000000) : slices_Clone_int_int.f l = some l := by
 unfold slices_Clone_int_int.f
 rw [if_pos (by omega)]
end Go.Proofs.Ytoipfgpggcnkmaa.Pure
