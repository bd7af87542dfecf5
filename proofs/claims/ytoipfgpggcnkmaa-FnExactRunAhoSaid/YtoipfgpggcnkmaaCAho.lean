/- Plain laws of machines of words: what is held to be good, and a step. -/
import Derived.Test.YtoipfgpggcnkmaaCP0
import Derived.Test.YtoipfgpggcnkmaaC0
import Derived.Test.YtoipfgpggcnkmaaC1
import Derived.Test.YtoipfgpggcnkmaaC2
import Derived.Test.YtoipfgpggcnkmaaC3
import Derived.Test.YtoipfgpggcnkmaaC4
import Derived.Test.YtoipfgpggcnkmaaCRising
import Derived.Test.YtoipfgpggcnkmaaCLists
set_option linter.unusedVariables false
set_option linter.unusedSimpArgs false
namespace Go.Proofs.Ytoipfgpggcnkmaa.Pure
open Go.RowKit Go.Proofs.Ytoipfgpggcnkmaa.P Go.Proofs.YtoipfgpggcnkmaaW.PrintWords
theorem implGoodRune_eq' (r : Int) : impl_GoodRune.f r = some (runeB r) := by
 unfold impl_GoodRune.f runeB
 rw [inRange_eq', inRange_eq']
 simp only [Option.bind_some]
 cases inB r 0 1114111 <;> simp
def pairAt (P B : List Int) (a b : Int) (j : Nat) : Bool := decide (rd P j = a) && decide (rd B j = b)
def ahoAt (P B F : List Int) (E : List (List Int)) (i : Nat) : Bool :=
 risingB (rd_L1 E i) 0 7 && (decide (i = 0) || (inB (rd P i) 0 ((i : Int) - 1) && (runeB (rd B i) && (inB (rd F i) 0 ((i : Int) - 1) && allFrom (fun j => !pairAt P B (rd P i) (rd B i) j) 1 (i - 1)))))
def goodAhoB (P B F : List Int) (E : List (List Int)) : Bool :=
 inB P.length 1 100 && (decide ((B.length : Int) = P.length) && (decide ((F.length : Int) = P.length) && (decide ((E.length : Int) = P.length) && (decide (rd P 0 = -1) && (decide (rd B 0 = -1) && (decide (rd F 0 = 0) && allFrom (ahoAt P B F E) 0 P.length))))))
theorem specGoodAho_l (P B F : List Int) (E : List (List Int)) (hm : ∀ i, i < E.length → (rd_L1 E i).length ≤ 1000000000) (hn : P.length ≤ 100) (hB : B.length = P.length) (hF : F.length = P.length) (hE : E.length = P.length) : Ev (fun k => spec_GoodAho.l0 k P.length 0 P B F E) (allFrom (ahoAt P B F E) 0 P.length) := by
 have h := Ev.andLoop (g := fun k i => spec_GoodAho.l0 k P.length (i : Int) P B F E) (p := ahoAt P B F E) (n := P.length) (r := true)
  (Ev.step (fun k => spec_GoodAho.l0.eq_2 ..) (Ev.neg (by omega) (Ev.now _)))
  (fun i v hi hv => by
   have h3 : ∀ b : Bool, i ≠ 0 → Ev (fun k => spec_GoodAho.j3 k (i : Int) P.length (i : Int) (!b) P B F E) ((b && allFrom (fun j => !pairAt P B (rd P i) (rd B i) j) 1 (i - 1)) && v) := fun b hi0 => by
    refine Ev.step (fun k => spec_GoodAho.j3.eq_2 ..) ?_
    cases b
    ·exact Ev.pos rfl (Ev.now _)
    refine Ev.neg (by simp) ?_
    rw [Bool.true_and]
    exact Ev.andLoop (g := fun k j => spec_GoodAho.l1 k (i : Int) (j : Int) P.length (i : Int) P B F E) (p := fun j => !pairAt P B (rd P i) (rd B i) j) (n := i) (r := v)
     (Ev.step (fun k => spec_GoodAho.l1.eq_2 ..) (Ev.neg (by omega) (by rw [w64s (by omega)]; exact hv)))
     (fun j u hj hu => by
      refine Ev.step (fun k => spec_GoodAho.l1.eq_2 ..) (Ev.pos (by omega) (Ev.pos (by omega) (Ev.pos (by omega) (Ev.pos (by omega) (Ev.pos (by omega) ?_)))))
      rw [w64s (by omega)]
      unfold pairAt
      by_cases c1 : rd P j = rd P i
      ·refine Ev.pos c1 (Ev.pos (by omega) (Ev.pos (by omega) ?_))
       by_cases c2 : rd B j = rd B i
       ·exact Ev.pos c2 (Ev.some' (by simp [c1, c2]))
       ·exact Ev.neg c2 (Ev.eq' hu (by simp [c2]))
      ·exact Ev.neg c1 (Ev.eq' hu (by simp [c1])))
     (i - 1) 1 (by omega)
   have bad : Ev (fun k => spec_GoodAho.j3 k (i : Int) P.length (i : Int) true P B F E) false := Ev.step (fun k => spec_GoodAho.j3.eq_2 ..) (Ev.pos rfl (Ev.now _))
   refine Ev.step (fun k => spec_GoodAho.l0.eq_2 ..) (Ev.pos (by omega) (Ev.pos (by omega) (Ev.pos (by omega) (Ev.bind (l1Rising _ 0 7 (by have := hm i (by omega); omega)) ?_))))
   unfold ahoAt
   cases c1 : risingB (rd_L1 E i) 0 7
   ·exact Ev.neg (by simp) (Ev.some' (by simp))
   refine Ev.pos rfl ?_
   by_cases c2 : (i : Int) = 0
   ·refine Ev.pos c2 ?_
    rw [w64s (by omega), decide_eq_true (show i = 0 by omega)]
    simpa using hv
   refine Ev.neg c2 (Ev.pos (by omega) ?_)
   rw [w64 (x := (i : Int) - 1) (by omega) (by omega), decide_eq_false (show ¬ i = 0 by omega), Bool.true_and, Bool.false_or]
   refine Ev.bind0 (l1In_eq _ _ _) ?_
   cases c3 : inB (rd P i) 0 ((i : Int) - 1)
   ·exact Ev.neg (by simp) bad
   refine Ev.pos rfl (Ev.pos (by omega) (Ev.bind0 (specGoodRune_eq _) ?_))
   cases c4 : runeB (rd B i)
   ·exact Ev.neg (by simp) bad
   refine Ev.pos rfl (Ev.pos (by omega) (Ev.bind0 (l1In_eq _ _ _) ?_))
   rw [Bool.true_and, Bool.true_and]
   exact h3 _ (by omega))
  P.length 0 (by omega)
 rw [Bool.and_true] at h
 exact h
theorem specGoodAho (P B F : List Int) (E : List (List Int)) (hm : ∀ i, i < E.length → (rd_L1 E i).length ≤ 1000000000) : Ev (fun k => spec_GoodAho.f k P B F E) (goodAhoB P B F E) := by
 have bad : Ev (fun k => spec_GoodAho.j0 k true P B F E) false := Ev.step (fun k => spec_GoodAho.j0.eq_2 ..) (Ev.pos rfl (Ev.now _))
 have bad1 : Ev (fun k => spec_GoodAho.j1 k true P B F E) false := Ev.step (fun k => spec_GoodAho.j1.eq_2 ..) (Ev.pos rfl (Ev.now _))
 unfold spec_GoodAho.f goodAhoB
 refine Ev.bind0 (l1In_eq _ _ _) ?_
 cases c0 : inB P.length 1 100
 ·exact Ev.neg (by simp) bad
 have hn : 1 ≤ P.length ∧ P.length ≤ 100 := by unfold inB at c0; simp at c0; omega
 refine Ev.pos rfl ?_
 rw [Bool.true_and]
 by_cases c1 : (B.length : Int) = P.length
 ·rw [decide_eq_true c1, Bool.true_and]
  refine Ev.pos c1 ?_
  by_cases c2 : (F.length : Int) = P.length
  ·rw [decide_eq_true c2, Bool.true_and]
   refine Ev.pos c2 ?_
   by_cases c3 : (E.length : Int) = P.length
   ·rw [decide_eq_true c3, Bool.true_and, bne_eq_false_iff_eq.mpr c3]
    refine Ev.step (fun k => spec_GoodAho.j0.eq_2 ..) (Ev.neg (by simp) (Ev.pos (by omega) ?_))
    by_cases c4 : rd P 0 = -1
    ·rw [decide_eq_true c4, Bool.true_and]
     refine Ev.pos c4 (Ev.pos (by omega) ?_)
     by_cases c5 : rd B 0 = -1
     ·rw [decide_eq_true c5, Bool.true_and]
      refine Ev.pos c5 (Ev.pos (by omega) (Ev.step (fun k => spec_GoodAho.j1.eq_2 ..) ?_))
      by_cases c6 : rd F 0 = 0
      ·rw [decide_eq_true c6, Bool.true_and]
       exact Ev.neg (by simp [c6]) (specGoodAho_l P B F E hm hn.2 (by omega) (by omega) (by omega))
      ·exact Ev.pos (by simp [c6]) (Ev.some' (by simp [c6]))
     ·exact Ev.neg c5 (Ev.eq' bad1 (by simp [c5]))
    ·exact Ev.neg c4 (Ev.eq' bad1 (by simp [c4]))
   ·rw [show ((E.length : Int) != P.length) = true from by simpa using c3]
    exact Ev.eq' bad (by simp [c3])
  ·exact Ev.neg c2 (Ev.eq' bad (by simp [c2]))
 ·exact Ev.neg c1 (Ev.eq' bad (by simp [c1]))
theorem kid (P B F : List Int) (E : List (List Int)) (a b : Int) (hn : P.length ≤ 1000000) (hB : B.length = P.length) : Ev (fun k => impl_Aho_kid.f k P B F E a b) (findFrom (pairAt P B a b) (fun j => (j : Int)) (-1) 1 (P.length - 1)) := by
 unfold impl_Aho_kid.f
 by_cases h0 : P.length = 0
 ·rw [h0]
  exact Ev.step (fun k => impl_Aho_kid.l0.eq_2 ..) (Ev.neg (by omega) (Ev.now _))
 refine Ev.findLoop (g := fun k i => impl_Aho_kid.l0 k a b (i : Int) P B F E) (p := pairAt P B a b) (n := P.length)
  (Ev.step (fun k => impl_Aho_kid.l0.eq_2 ..) (Ev.neg (by omega) (Ev.now _)))
  (fun i hi hp => ?_) (fun i x hi hp hx => ?_) (P.length - 1) 1 (by omega)
 ·unfold pairAt at hp
  rw [Bool.and_eq_true, decide_eq_true_eq, decide_eq_true_eq] at hp
  exact Ev.step (fun k => impl_Aho_kid.l0.eq_2 ..) (Ev.pos (by omega) (Ev.pos (by omega) (Ev.pos hp.1 (Ev.pos (by omega) (Ev.pos hp.2 (Ev.now _))))))
 ·refine Ev.step (fun k => impl_Aho_kid.l0.eq_2 ..) (Ev.pos (by omega) (Ev.pos (by omega) ?_))
  rw [w64s (by omega)]
  by_cases c : rd P i = a
  ·refine Ev.pos c (Ev.pos (by omega) (Ev.neg (fun c2 => ?_) hx))
   unfold pairAt at hp
   simp [c, c2] at hp
  ·exact Ev.neg c hx
theorem implGoodAho_l (P B F : List Int) (E : List (List Int)) (hm : ∀ i, i < E.length → (rd_L1 E i).length ≤ 1000000000) (hn : P.length ≤ 100) (hB : B.length = P.length) (hF : F.length = P.length) (hE : E.length = P.length) : Ev (fun k => impl_GoodAho.l0 k P.length 0 P B F E) (allFrom (ahoAt P B F E) 0 P.length) := by
 have h := Ev.andLoop (g := fun k i => impl_GoodAho.l0 k P.length (i : Int) P B F E) (p := ahoAt P B F E) (n := P.length) (r := true)
  (Ev.step (fun k => impl_GoodAho.l0.eq_2 ..) (Ev.neg (by omega) (Ev.now _)))
  (fun i v hi hv => by
   refine Ev.step (fun k => impl_GoodAho.l0.eq_2 ..) (Ev.pos (by omega) (Ev.pos (by omega) (Ev.pos (by omega) (Ev.bind (isRising _ 0 7 (by have := hm i (by omega); omega)) ?_))))
   unfold ahoAt
   cases c1 : risingB (rd_L1 E i) 0 7
   ·exact Ev.neg (by simp) (Ev.some' (by simp))
   refine Ev.pos rfl ?_
   rw [w64s (by omega)]
   by_cases c2 : (i : Int) > 0
   ·refine Ev.pos c2 (Ev.pos (by omega) ?_)
    rw [decide_eq_false (show ¬ i = 0 by omega), Bool.true_and, Bool.false_or]
    refine Ev.bind0 (isPlace_eq _ _ (by omega) (by omega)) ?_
    cases c3 : inB (rd P i) 0 ((i : Int) - 1)
    ·exact Ev.neg (by simp) (Ev.some' (by simp))
    refine Ev.pos rfl (Ev.pos (by omega) (Ev.bind0 (implGoodRune_eq' _) ?_))
    cases c4 : runeB (rd B i)
    ·exact Ev.neg (by simp) (Ev.some' (by simp))
    refine Ev.pos rfl (Ev.pos (by omega) (Ev.bind0 (isPlace_eq _ _ (by omega) (by omega)) ?_))
    cases c5 : inB (rd F i) 0 ((i : Int) - 1)
    ·exact Ev.neg (by simp) (Ev.some' (by simp))
    refine Ev.pos rfl (Ev.bind (kid P B F E (rd P i) (rd B i) (by omega) hB) ?_)
    rw [Bool.true_and, Bool.true_and, Bool.true_and]
    have hself : pairAt P B (rd P i) (rd B i) i = true := by unfold pairAt; simp
    cases c6 : allFrom (fun j => !pairAt P B (rd P i) (rd B i) j) 1 (i - 1)
    ·refine Ev.neg (fun he => ?_) (Ev.some' (by simp))
     have hc : ¬ (allFrom (fun j => !pairAt P B (rd P i) (rd B i) j) 1 (i - 1) = true) := by rw [c6]; simp
     apply hc
     rw [allFrom_iff]
     intro j h1 h2
     rcases findFrom_cases (p := pairAt P B (rd P i) (rd B i)) (v := fun j => (j : Int)) (z := -1) (P.length - 1) 1 with ⟨h3, h4⟩ | ⟨m, h3, h4, h5, h6, h7⟩
     ·rw [h3] at he
      omega
     ·rw [h7] at he
      have : m = i := by omega
      subst this
      rw [h6 j (by omega) (by omega)]
      rfl
    ·have hh := (allFrom_iff _ _ _).1 c6
     rw [findFrom_hit (p := pairAt P B (rd P i) (rd B i)) (P.length - 1) 1 i (by omega) (by omega) hself (fun m a b => by have := hh m a (by omega); simpa using this)]
     exact Ev.pos rfl (by simpa using hv)
   ·refine Ev.neg c2 ?_
    rw [decide_eq_true (show i = 0 by omega)]
    simpa using hv)
  P.length 0 (by omega)
 rw [Bool.and_true] at h
 exact h
theorem implGoodAho (P B F : List Int) (E : List (List Int)) (hm : ∀ i, i < E.length → (rd_L1 E i).length ≤ 1000000000) : Ev (fun k => impl_GoodAho.f k P B F E) (goodAhoB P B F E) := by
 have bad : Ev (fun k => impl_GoodAho.j0 k P.length true P B F E) false := Ev.step (fun k => impl_GoodAho.j0.eq_2 ..) (Ev.pos rfl (Ev.now _))
 unfold impl_GoodAho.f goodAhoB
 refine Ev.bind0 (inRange_eq' _ _ _) ?_
 cases c0 : inB P.length 1 100
 ·exact Ev.neg (by simp) bad
 have hn : 1 ≤ P.length ∧ P.length ≤ 100 := by unfold inB at c0; simp at c0; omega
 refine Ev.pos rfl ?_
 rw [Bool.true_and]
 by_cases c1 : (B.length : Int) = P.length
 ·rw [decide_eq_true c1, Bool.true_and]
  refine Ev.pos c1 ?_
  by_cases c2 : (F.length : Int) = P.length
  ·rw [decide_eq_true c2, Bool.true_and]
   refine Ev.pos c2 ?_
   by_cases c3 : (E.length : Int) = P.length
   ·rw [decide_eq_true c3, Bool.true_and]
    refine Ev.pos c3 (Ev.pos (by omega) ?_)
    by_cases c4 : rd P 0 = -1
    ·rw [decide_eq_true c4, Bool.true_and]
     refine Ev.pos c4 (Ev.pos (by omega) ?_)
     by_cases c5 : rd B 0 = -1
     ·rw [decide_eq_true c5, Bool.true_and]
      refine Ev.pos c5 (Ev.pos (by omega) (Ev.step (fun k => impl_GoodAho.j0.eq_2 ..) ?_))
      by_cases c6 : rd F 0 = 0
      ·rw [decide_eq_true c6, Bool.true_and]
       exact Ev.neg (by simp [c6]) (implGoodAho_l P B F E hm hn.2 (by omega) (by omega) (by omega))
      ·exact Ev.pos (by simp [c6]) (Ev.some' (by simp [c6]))
     ·exact Ev.neg c5 (Ev.eq' bad (by simp [c5]))
    ·exact Ev.neg c4 (Ev.eq' bad (by simp [c4]))
   ·exact Ev.neg c3 (Ev.eq' bad (by simp [c3]))
  ·exact Ev.neg c2 (Ev.eq' bad (by simp [c2]))
 ·exact Ev.neg c1 (Ev.eq' bad (by simp [c1]))
structure GoodA (P B F : List Int) (E : List (List Int)) : Prop where
 n1 : 1 ≤ P.length
 n100 : P.length ≤ 100
 b : B.length = P.length
 f : F.length = P.length
 e : E.length = P.length
 p0 : rd P 0 = -1
 f0 : rd F 0 = 0
 at_ : ∀ i, i < P.length → ahoAt P B F E i = true
theorem goodA_of {P B F : List Int} {E : List (List Int)} (h : goodAhoB P B F E = true) : GoodA P B F E := by
 unfold goodAhoB at h
 simp only [Bool.and_eq_true, decide_eq_true_eq] at h
 obtain ⟨h1, h2, h3, h4, h5, h6, h7, h8⟩ := h
 unfold inB at h1
 simp only [Bool.and_eq_true, decide_eq_true_eq] at h1
 exact ⟨by omega, by omega, by omega, by omega, by omega, h5, h7, fun i hi => (allFrom_iff _ _ _).1 h8 i (by omega) (by omega)⟩
theorem GoodA.fail {P B F : List Int} {E : List (List Int)} (h : GoodA P B F E) {i : Nat} (hi : i < P.length) (h0 : 0 < i) : 0 ≤ rd F i ∧ rd F i < i := by
 have := h.at_ i hi
 unfold ahoAt inB at this
 simp only [Bool.and_eq_true, Bool.or_eq_true, decide_eq_true_eq] at this
 omega
theorem GoodA.parent {P B F : List Int} {E : List (List Int)} (h : GoodA P B F E) {i : Nat} (hi : i < P.length) (h0 : 0 < i) : 0 ≤ rd P i ∧ rd P i < i := by
 have := h.at_ i hi
 unfold ahoAt inB at this
 simp only [Bool.and_eq_true, Bool.or_eq_true, decide_eq_true_eq] at this
 omega
def stepA (P B F : List Int) (r : Int) : Nat → Int → Int
 | 0, _ => 0
 | d + 1, s => let q := findFrom (pairAt P B s r) (fun j => (j : Int)) (-1) 1 (P.length - 1); if q ≥ 0 then q else if s = 0 then 0 else stepA P B F r d (rd F s)
theorem implStep {P B F : List Int} {E : List (List Int)} (h : GoodA P B F E) (r : Int) : ∀ (d s : Nat), s < d → s < P.length → Ev (fun k => impl_Aho_step.f k P B F E (s : Int) r) (stepA P B F r d (s : Int))
 | 0, s, hd, _ => by omega
 | d + 1, s, hd, hs => by
  have hn := h.n100
  unfold impl_Aho_step.f
  refine Ev.step (fun k => impl_Aho_step.l0.eq_2 ..) (Ev.bind (kid P B F E (s : Int) r (by omega) h.b) ?_)
  simp only [stepA]
  generalize findFrom (pairAt P B (s : Int) r) (fun j => (j : Int)) (-1) 1 (P.length - 1) = q
  by_cases c1 : q ≥ 0
  ·exact Ev.pos c1 (Ev.some' (by rw [if_pos c1]))
  rw [if_neg c1]
  refine Ev.neg c1 ?_
  by_cases c2 : (s : Int) = 0
  ·exact Ev.pos c2 (Ev.some' (by rw [if_pos c2]))
  rw [if_neg c2]
  have hf := h.fail hs (by omega)
  refine Ev.neg c2 (Ev.pos (by omega) (Ev.pos (by have := h.f; omega) ?_))
  have ih := implStep h r d (rd F s).toNat (by omega) (by omega)
  rw [Int.toNat_of_nonneg hf.1] at ih
  unfold impl_Aho_step.f at ih
  exact ih
theorem specStep {P B F : List Int} {E : List (List Int)} (h : GoodA P B F E) (r : Int) : ∀ (d s : Nat), s < d → s < P.length → Ev (fun k => spec_l8Step.f k P B F E (s : Int) r) (stepA P B F r d (s : Int))
 | 0, s, hd, _ => by omega
 | d + 1, s, hd, hs => by
  have hn := h.n100
  have hn1 := h.n1
  have hb := h.b
  refine Ev.step (fun k => spec_l8Step.f.eq_2 ..) ?_
  have tail : Ev (fun k => spec_l8Step.l0 k (s : Int) r P.length (P.length : Int) P B F E) (if (s : Int) = 0 then 0 else stepA P B F r d (rd F s)) := by
   refine Ev.step (fun k => spec_l8Step.l0.eq_2 ..) (Ev.neg (by omega) ?_)
   by_cases c2 : (s : Int) = 0
   ·exact Ev.pos c2 (Ev.some' (by rw [if_pos c2]))
   rw [if_neg c2]
   have hf := h.fail hs (by omega)
   refine Ev.neg c2 (Ev.pos (by omega) (Ev.pos (by have := h.f; omega) ?_))
   have ih := specStep h r d (rd F s).toNat (by omega) (by omega)
   rw [Int.toNat_of_nonneg hf.1] at ih
   exact Ev.bind ih (Ev.now _)
  have loop := Ev.findLoop (g := fun k i => spec_l8Step.l0 k (s : Int) r P.length (i : Int) P B F E) (p := pairAt P B (s : Int) r) (v := fun j => (j : Int)) (n := P.length) tail
   (fun i hi hp => by
    unfold pairAt at hp
    rw [Bool.and_eq_true, decide_eq_true_eq, decide_eq_true_eq] at hp
    exact Ev.step (fun k => spec_l8Step.l0.eq_2 ..) (Ev.pos (by omega) (Ev.pos (by omega) (Ev.pos (by omega) (Ev.pos hp.1 (Ev.pos (by omega) (Ev.pos hp.2 (Ev.now _))))))))
   (fun i x hi hp hx => by
    refine Ev.step (fun k => spec_l8Step.l0.eq_2 ..) (Ev.pos (by omega) (Ev.pos (by omega) (Ev.pos (by omega) ?_)))
    rw [w64s (by omega)]
    by_cases c : rd P i = (s : Int)
    ·refine Ev.pos c (Ev.pos (by omega) (Ev.neg (fun c2 => ?_) hx))
     unfold pairAt at hp
     simp [c, c2] at hp
    ·exact Ev.neg c hx)
   P.length 0 (by omega)
  refine Ev.eq' loop ?_
  obtain ⟨m, hm⟩ : ∃ m, P.length = m + 1 := ⟨P.length - 1, by omega⟩
  have hp0 : pairAt P B (s : Int) r 0 = false := by
   unfold pairAt
   have := h.p0
   rw [show ((0 : Nat) : Int) = 0 from rfl, this, decide_eq_false (by omega)]
   rfl
  simp only [stepA]
  rw [hm]
  simp only [findFrom, hp0, Nat.add_sub_cancel]
  rw [if_neg (by simp)]
  rcases findFrom_cases (p := pairAt P B (s : Int) r) (v := fun j => (j : Int)) (z := (-1 : Int)) m 1 with ⟨h3, h4⟩ | ⟨q, h3, h4, h5, h6, h7⟩
  ·rw [findFrom_miss m 1 h4, h3, if_neg (show ¬ ((-1 : Int) ≥ 0) by omega)]
  ·rw [findFrom_hit m 1 q h3 h4 h5 h6, h7]
   rw [if_pos (show ((q : Nat) : Int) ≥ 0 by omega)]
end Go.Proofs.Ytoipfgpggcnkmaa.Pure
