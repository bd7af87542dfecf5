/- Plain laws of clauses and instructions: what is held to be good, in the program and in the reference. -/
import Derived.Test.YtkpeihdlmjdejaaCP0
import Derived.Test.YtkpeihdlmjdejaaC0
import Derived.Test.YtkpeihdlmjdejaaC3
import Derived.Test.YtkpeihdlmjdejaaC4
import Derived.Test.YtkpeihdlmjdejaaC5
import Derived.Test.YtkpeihdlmjdejaaC6
import Derived.Test.YtkpeihdlmjdejaaCRes
set_option linter.unusedVariables false
set_option linter.unusedSimpArgs false
namespace Go.Proofs.Ytkpeihdlmjdejaa.Pure
open Go.RowKit Go.Proofs.Ytkpeihdlmjdejaa.P Go.Proofs.YtkpeihdlmjdejaaW.PrintWords
abbrev CL := S178
abbrev INS := S115
theorem beqI (a b : Int) : (a == b) = decide (a = b) := by by_cases h : a = b <;> simp [h]
theorem Ev.andc {c : Prop} [Decidable c] {f : Nat → Option Bool} {r : Bool} (h : c → Ev f r) : Ev (fun n => if c then f n else some false) (decide c && r) := by
 by_cases hc : c
 ·rw [decide_eq_true hc, Bool.true_and]
  exact Ev.pos hc (h hc)
 ·rw [decide_eq_false hc, Bool.false_and]
  exact Ev.neg hc (Ev.now _)
theorem Ev.andb {g : Nat → Option Bool} {f : Nat → Option Bool} {b r : Bool} (h : Ev g b) (h2 : b = true → Ev f r) : Ev (fun n => (g n).bind fun t => if t = true then f n else some false) (b && r) := by
 refine Ev.bind h ?_
 cases b
 ·exact Ev.neg (by simp) (Ev.now _)
 ·rw [Bool.true_and]
  exact Ev.pos rfl (h2 rfl)
theorem rdCL_eq (p : List CL) {i : Nat} (h : i < p.length) : rd_T178 p (i : Int) = p[i] := by
 unfold rd_T178
 rw [Int.toNat_natCast, List.getD_eq_getElem?_getD, List.getElem?_eq_getElem h]
 rfl
theorem rdINS_eq (p : List INS) {i : Nat} (h : i < p.length) : rd_T115 p (i : Int) = p[i] := by
 unfold rd_T115
 rw [Int.toNat_natCast, List.getD_eq_getElem?_getD, List.getElem?_eq_getElem h]
 rfl
structure SmallC (p : List CL) : Prop where
 len : p.length ≤ 1048576
 pats : ∀ x ∈ p, SmallR x.f1
def clauseB (x : CL) : Bool := if x.f0 = 1 then goodReB x.f1 else (decide (x.f0 = 2) || decide (x.f0 = 3)) && decide (x.f1.length = 0)
def clausesB (c : List CL) : Bool := decide (c.length ≤ 8) && c.all clauseB
theorem l10Clauses_l (c : List CL) (hc : SmallC c) : ∀ (d i : Nat), i + d = c.length → Ev (fun k => spec_l10Clauses.l0 k c c (c.length : Int) (i : Int)) (decide (c.length ≤ 8) && (c.drop i).all clauseB)
 | 0, i, hd => by
  refine Ev.step (fun k => spec_l10Clauses.l0.eq_2 ..) (Ev.neg (by omega) (Ev.some' ?_))
  rw [List.drop_eq_nil_of_le (by omega), List.all_nil, Bool.and_true]
  exact decide_eq_decide.mpr (by omega)
 | d + 1, i, hd => by
  have hlen := hc.len
  have ih := l10Clauses_l c hc d (i + 1) (by omega)
  have hi : i < c.length := by omega
  rw [drop_cons c hi, List.all_cons, Bool.and_left_comm]
  refine Ev.step (fun k => spec_l10Clauses.l0.eq_2 ..) (Ev.pos (by omega) (Ev.pos (by omega) (Ev.pos (by omega) ?_)))
  rw [rdCL_eq c hi]
  have hp := hc.pats _ (List.getElem_mem hi)
  generalize c[i] = x at hp
  have hj : ∀ b : Bool, Ev (fun k => spec_l10Clauses.j1 k c c (c.length : Int) (i : Int) b x.f0 x.f1) ((b && decide (x.f1.length = 0)) && (decide (c.length ≤ 8) && (c.drop (i + 1)).all clauseB)) := fun b => by
   refine Ev.step (fun k => spec_l10Clauses.j1.eq_2 ..) ?_
   cases b
   ·exact Ev.neg (by simp) (Ev.now _)
   ·by_cases hl : (x.f1.length : Int) > 0
    ·refine Ev.pos rfl (Ev.pos hl (Ev.some' ?_))
     rw [decide_eq_false (by omega)]
     rfl
    ·refine Ev.pos rfl (Ev.neg hl ?_)
     rw [decide_eq_true (by omega), Bool.and_true, Bool.true_and, w64s (by omega)]
     exact ih
  by_cases h1 : x.f0 = 1
  ·refine Ev.pos h1 ?_
   rw [show clauseB x = goodReB x.f1 from if_pos h1]
   refine Ev.andb (specGoodRe _ hp) (fun _ => ?_)
   rw [w64s (by omega)]
   exact ih
  ·rw [show clauseB x = ((decide (x.f0 = 2) || decide (x.f0 = 3)) && decide (x.f1.length = 0)) from if_neg h1]
   refine Ev.neg h1 ?_
   by_cases h2 : x.f0 = 2
   ·refine Ev.pos h2 (Ev.eq' (hj _) ?_)
    simp [h2]
   ·refine Ev.neg h2 (Ev.eq' (hj _) ?_)
    rw [decide_eq_false h2, Bool.false_or]
    rfl
theorem l10Clauses (c : List CL) (hc : SmallC c) : Ev (fun k => spec_l10Clauses.f k c) (clausesB c) := by
 unfold spec_l10Clauses.f
 exact l10Clauses_l c hc c.length 0 (by omega)
theorem areAwaited1 (x : CL) (hp : SmallR x.f1) : Ev (fun k => impl_areAwaited_1.f k x.f0 x.f1) (!clauseB x) := by
 unfold impl_areAwaited_1.f clauseB
 by_cases h1 : x.f0 = 1
 ·rw [if_pos h1]
  exact Ev.pos h1 (Ev.bind (implGoodRe _ hp) (Ev.now _))
 rw [if_neg h1]
 refine Ev.neg h1 ?_
 have hl : (!decide (x.f1.length = 0)) = decide ((x.f1.length : Int) > 0) := by
  by_cases h : x.f1.length = 0 <;> simp [h]; omega
 by_cases h2 : x.f0 = 2
 ·refine Ev.pos h2 (Ev.some' ?_)
  rw [decide_eq_true h2, Bool.true_or, Bool.true_and, hl]
 refine Ev.neg h2 ?_
 rw [decide_eq_false h2, Bool.false_or]
 by_cases h3 : x.f0 = 3
 ·refine Ev.pos h3 (Ev.some' ?_)
  rw [decide_eq_true h3, Bool.true_and, hl]
 ·refine Ev.neg h3 (Ev.some' ?_)
  rw [decide_eq_false h3]
  rfl
theorem areAwaited (c : List CL) (hc : SmallC c) : Ev (fun k => impl_areAwaited.f k c) (clausesB c) := by
 unfold impl_areAwaited.f clausesB
 have ha : Ev (fun k => slices_ContainsFunc_impl_Clause_167.f k c) (c.any fun x => !clauseB x) := by
  unfold slices_ContainsFunc_impl_Clause_167.f
  exact Ev.anyO (p := fun k (x : CL) => impl_areAwaited_1.f k x.f0 x.f1) (q := fun x => !clauseB x) (fun x hx => areAwaited1 x (hc.pats x hx))
 by_cases h : c.length ≤ 8
 ·rw [decide_eq_true h, Bool.true_and]
  refine Ev.pos (by omega) (Ev.bind ha (Ev.some' ?_))
  rw [← List.not_all_eq_any_not, Bool.not_not]
 ·rw [decide_eq_false h, Bool.false_and]
  exact Ev.neg (by omega) (Ev.now _)
structure SmallI (x : INS) : Prop where
 text : x.f4.length ≤ 1048576
 cl : SmallC x.f5
 go_ : x.f6.length ≤ 1048576
def insB (x : INS) (many : Int) : Bool :=
 inB x.f0 1 7 && impl_goodIns.G (impl_goodIns.h x.f0) (x.f1 == 0) (x.f2 == 0) (x.f3 == 0) (decide (0 < (x.f4.length : Int))) (decide (0 < (wrap64 ((x.f5.length : Int) + (x.f6.length : Int))))) ((x.f6.length : Int) == (x.f5.length : Int))
  (inB x.f1 0 (if x.f0 = 2 then 1000 else 3)) (inB x.f2 (-1000) 1000) (inB x.f3 0 many) (decide ((x.f4.length : Int) ≤ 40) && x.f4.all runeB) (clausesB x.f5) (x.f6.any fun t => !inB t 0 many)
theorem implIns (x : INS) (hx : SmallI x) (many : Int) : Ev (fun k => impl_goodIns.f k x.f0 x.f1 x.f2 x.f3 x.f4 x.f5 x.f6 many) (insB x many) := by
 have hw := areAwaited x.f5 hx.cl
 obtain ⟨K, hK⟩ := hw
 refine ⟨K + 1, fun k hk => ?_⟩
 obtain ⟨k, rfl⟩ : ∃ m, k = m + 1 := ⟨k - 1, by omega⟩
 have hg : slices_ContainsFunc_int_int_135.f x.f6 many = some (x.f6.any fun t => !inB t 0 many) := by
  unfold slices_ContainsFunc_int_int_135.f
  exact anyO_eq (fun t _ => by unfold impl_goodIns_1.f; rw [inRange_eq]; rfl)
 show impl_goodIns.f (k + 1) _ _ _ _ _ _ _ _ = _
 rw [impl_goodIns.f]
 have hK2 : impl_areAwaited.f (k + 1) x.f5 = some (clausesB x.f5) := hK (k + 1) (by omega)
 rw [inRange_eq, Option.bind_some, inRange_eq, Option.bind_some, inRange_eq, Option.bind_some, inRange_eq, Option.bind_some, areRunes, Option.bind_some, hK2, Option.bind_some, hg, Option.bind_some]
 rfl
theorem gk1 (zA zB zT ar l1 l40 e5 e6 p4 q ta tb tt tw tg : Bool) (h1 : l40 = true → l1 = true) (hq : e5 = true → e6 = true → q = true) (hb : zB = true → tb = true) (ht : zT = true → tt = true) (hw : e5 = true → tw = true) (hg : e6 = true → tg = false) :
  (zA && (zB && (zT && ((ar && l1) && (l40 && (e5 && e6)))))) = impl_goodIns.G (false, false, false, true, false) zA zB zT p4 (!(e5 && e6)) q ta tb tt (l40 && ar) tw tg := by
 unfold impl_goodIns.G
 cases zA <;> cases zB <;> cases zT <;> cases e5 <;> cases e6 <;> cases l40 <;> simp_all
theorem gk2 (zA zB zT e4 q ta tb tt tr tw tg p5 : Bool) (hr : e4 = true → tr = true) (hb : zB = true → tb = true) :
  (zB && (e4 && (tw && (q && ((!tg) && (ta && tt)))))) = impl_goodIns.G (true, false, true, false, true) zA zB zT (!e4) p5 q ta tb tt tr tw tg := by
 unfold impl_goodIns.G
 cases zB <;> cases e4 <;> cases tw <;> cases q <;> cases tg <;> cases ta <;> simp_all
theorem gk34 (zA zB zT e4 e5 e6 q ta tb tt tr tw tg : Bool) (hq : e5 = true → e6 = true → q = true) (ht : zT = true → tt = true) (hr : e4 = true → tr = true) (hw : e5 = true → tw = true) (hg : e6 = true → tg = false) :
  (ta && (tb && (zT && (tt && (e4 && (e5 && e6)))))) = impl_goodIns.G (true, true, false, false, false) zA zB zT (!e4) (!(e5 && e6)) q ta tb tt tr tw tg := by
 unfold impl_goodIns.G
 cases ta <;> cases tb <;> cases zT <;> cases e4 <;> cases e5 <;> cases e6 <;> simp_all
theorem gk5 (zA zB zT e4 e5 e6 q ta tb tt tr tw tg : Bool) (hq : e5 = true → e6 = true → q = true) (hr : e4 = true → tr = true) (hw : e5 = true → tw = true) (hg : e6 = true → tg = false) :
  (ta && (tb && (tt && (e4 && (e5 && e6))))) = impl_goodIns.G (true, true, true, false, false) zA zB zT (!e4) (!(e5 && e6)) q ta tb tt tr tw tg := by
 unfold impl_goodIns.G
 cases ta <;> cases tb <;> cases tt <;> cases e4 <;> cases e5 <;> cases e6 <;> simp_all
theorem gk6 (zA zB zT e4 e5 e6 q ta tb tt tr tw tg : Bool) (hq : e5 = true → e6 = true → q = true) (hb : zB = true → tb = true) (hr : e4 = true → tr = true) (hw : e5 = true → tw = true) (hg : e6 = true → tg = false) :
  (zA && (zB && (tt && (e4 && (e5 && e6))))) = impl_goodIns.G (false, false, true, false, false) zA zB zT (!e4) (!(e5 && e6)) q ta tb tt tr tw tg := by
 unfold impl_goodIns.G
 cases zA <;> cases zB <;> cases tt <;> cases e4 <;> cases e5 <;> cases e6 <;> simp_all
theorem gk7 (zA zB zT e4 e5 e6 q ta tb tt tr tw tg : Bool) (hq : e5 = true → e6 = true → q = true) (hb : zB = true → tb = true) (ht : zT = true → tt = true) (hr : e4 = true → tr = true) (hw : e5 = true → tw = true) (hg : e6 = true → tg = false) :
  (zA && (zB && (zT && (tt && (e4 && (e5 && e6)))))) = impl_goodIns.G (false, false, false, false, false) zA zB zT (!e4) (!(e5 && e6)) q ta tb tt tr tw tg := by
 unfold impl_goodIns.G
 cases zA <;> cases zB <;> cases zT <;> cases e4 <;> cases e5 <;> cases e6 <;> simp_all
theorem specIns (p : List INS) (x : INS) (hx : SmallI x) (hp : p.length ≤ 1048576) : Ev (fun k => spec_l11Ins.f k p x.f0 x.f1 x.f2 x.f3 x.f4 x.f5 x.f6) (insB x (p.length : Int)) := by
 have ht := hx.text
 have hc := hx.cl.len
 have hg := hx.go_
 have hP5 : decide (0 < (wrap64 ((x.f5.length : Int) + (x.f6.length : Int)))) = !(decide (x.f5.length = 0) && decide (x.f6.length = 0)) := by
  rw [w64 (by omega) (by omega), ← Bool.decide_and, ← decide_not]
  exact decide_eq_decide.mpr (by omega)
 have hP4 : decide (0 < (x.f4.length : Int)) = !decide (x.f4.length = 0) := by
  rw [← decide_not]
  exact decide_eq_decide.mpr (by omega)
 have hS3 : ((wrap64 ((wrap64 ((x.f4.length : Int) + (x.f5.length : Int))) + (x.f6.length : Int))) == 0) = (decide (x.f4.length = 0) && (decide (x.f5.length = 0) && decide (x.f6.length = 0))) := by
  rw [w64 (x := (x.f4.length : Int) + (x.f5.length : Int)) (by omega) (by omega), w64 (by omega) (by omega), ← Bool.decide_and, ← Bool.decide_and, beqI]
  exact decide_eq_decide.mpr (by omega)
 have hS2 : ((wrap64 ((x.f5.length : Int) + (x.f6.length : Int))) == 0) = (decide (x.f5.length = 0) && decide (x.f6.length = 0)) := by
  rw [w64 (by omega) (by omega), ← Bool.decide_and, beqI]
  exact decide_eq_decide.mpr (by omega)
 have hq : decide (x.f5.length = 0) = true → decide (x.f6.length = 0) = true → ((x.f6.length : Int) == (x.f5.length : Int)) = true := fun h1 h2 => by
  rw [beq_iff_eq]
  have := of_decide_eq_true h1
  have := of_decide_eq_true h2
  omega
 have hb : (x.f2 == 0) = true → inB x.f2 (-1000) 1000 = true := fun h => by
  rw [beq_iff_eq.mp h]
  rfl
 have htt : (x.f3 == 0) = true → inB x.f3 0 (p.length : Int) = true := fun h => by
  rw [beq_iff_eq.mp h]
  unfold inB
  simp
 have hr : decide (x.f4.length = 0) = true → (decide ((x.f4.length : Int) ≤ 40) && x.f4.all runeB) = true := fun h => by
  rw [List.eq_nil_of_length_eq_zero (of_decide_eq_true h)]
  rfl
 have hw : decide (x.f5.length = 0) = true → clausesB x.f5 = true := fun h => by
  rw [List.eq_nil_of_length_eq_zero (of_decide_eq_true h)]
  rfl
 have hgg : decide (x.f6.length = 0) = true → (x.f6.any fun t => !inB t 0 (p.length : Int)) = false := fun h => by
  rw [List.eq_nil_of_length_eq_zero (of_decide_eq_true h)]
  rfl
 have hd : ∀ a : Int, decide (a = 0) = (a == 0) := fun a => by rw [beqI]
 have tail : ∀ (a b c : Int), Ev (fun k => if x.f1 = a then (if x.f2 = b then (if x.f3 = c then ((spec_l1In.f x.f3 0 (p.length : Int)).bind fun t => (if t = true then (some ((wrap64 ((wrap64 ((x.f4.length : Int) + (x.f5.length : Int))) + (x.f6.length : Int))) == 0)) else (some false))) else (some false)) else (some false)) else (some false))
   (decide (x.f1 = a) && (decide (x.f2 = b) && (decide (x.f3 = c) && (inB x.f3 0 (p.length : Int) && (decide (x.f4.length = 0) && (decide (x.f5.length = 0) && decide (x.f6.length = 0))))))) := fun a b c =>
  Ev.andc (fun _ => Ev.andc (fun _ => Ev.andc (fun _ => Ev.andb (Ev.eq0 (l1In_eq _ _ _)) (fun _ => Ev.some' hS3))))
 have j1 : ∀ (c : Int) (y : Int), Ev (fun k => spec_l11Ins.j1 k (p.length : Int) x.f0 x.f1 x.f2 x.f3 x.f4 x.f5 x.f6 y x.f1 x.f2 c)
   (inB x.f1 0 3 && (inB x.f2 (-1000) 1000 && (decide (x.f3 = c) && (inB x.f3 0 (p.length : Int) && (decide (x.f4.length = 0) && (decide (x.f5.length = 0) && decide (x.f6.length = 0))))))) := fun c y => by
  refine Ev.step (fun k => spec_l11Ins.j1.eq_2 ..) (Ev.andb (Ev.eq0 (l1In_eq _ _ _)) (fun _ => Ev.andb (Ev.eq0 (l1In_eq _ _ _)) (fun _ => Ev.eq' (tail _ _ _) ?_)))
  rw [decide_eq_true rfl, decide_eq_true rfl, Bool.true_and, Bool.true_and]
 unfold spec_l11Ins.f
 by_cases k1 : x.f0 = 1
 ·refine Ev.pos k1 ?_
  refine Ev.eq' (Ev.andc (fun _ => Ev.andc (fun _ => Ev.andc (fun _ => Ev.andb (l1AllRunes x.f4 (by omega)) (fun _ => Ev.andc (fun _ => Ev.some' hS2)))))) ?_
  unfold insB
  rw [k1, show inB 1 1 7 = true from rfl, Bool.true_and, show impl_goodIns.h 1 = (false, false, false, true, false) from rfl, hP5, hd, hd, hd]
  exact gk1 _ _ _ _ _ _ _ _ _ _ _ _ _ _ _ (fun h => decide_eq_true (by have := of_decide_eq_true h; omega)) hq hb htt hw hgg
 refine Ev.neg k1 ?_
 by_cases k2 : x.f0 = 2
 ·refine Ev.pos k2 ?_
  have hall : (x.f6.all fun t => inB t 0 (p.length : Int)) = !(x.f6.any fun t => !inB t 0 (p.length : Int)) := by
   rw [← List.not_all_eq_any_not, Bool.not_not]
  refine Ev.eq' (Ev.andc (fun _ => Ev.andc (fun _ => Ev.andb (l10Clauses x.f5 hx.cl) (fun _ => Ev.andc (fun _ => Ev.andb (l1All x.f6 0 (p.length : Int) (by omega)) (fun _ => Ev.andb (Ev.eq0 (l1In_eq _ _ _)) (fun _ => Ev.bind0 (l1In_eq _ _ _) (Ev.now _)))))))) ?_
  unfold insB
  rw [k2, show inB 2 1 7 = true from rfl, Bool.true_and, show impl_goodIns.h 2 = (true, false, true, false, true) from rfl, hP4, hd, hall, if_pos rfl, show decide ((x.f4.length : Int) = 0) = decide (x.f4.length = 0) from decide_eq_decide.mpr (by omega), ← beqI]
  exact gk2 _ _ _ _ _ _ _ _ _ _ _ _ hr hb
 refine Ev.neg k2 ?_
 have i3 : (if x.f0 = 2 then (1000 : Int) else 3) = 3 := if_neg k2
 have j0a : ∀ (c : Int), (if x.f0 = 5 then x.f3 else 0) = c → Ev (fun k => spec_l11Ins.j0 k (p.length : Int) x.f0 true x.f0 x.f1 x.f2 x.f3 x.f4 x.f5 x.f6 x.f0 0 0 0) (inB x.f1 0 3 && (inB x.f2 (-1000) 1000 && (decide (x.f3 = c) && (inB x.f3 0 (p.length : Int) && (decide (x.f4.length = 0) && (decide (x.f5.length = 0) && decide (x.f6.length = 0))))))) := fun c hc => by
  subst hc
  refine Ev.step (fun k => spec_l11Ins.j0.eq_2 ..) (Ev.pos rfl ?_)
  by_cases k5 : x.f0 = 5
  ·rw [if_pos k5]
   exact Ev.pos k5 (j1 _ _)
  ·rw [if_neg k5]
   exact Ev.neg k5 (j1 _ _)
 by_cases k3 : x.f0 = 3
 ·refine Ev.pos k3 ?_
  rw [show (x.f0 == 3) = true from beq_iff_eq.mpr k3]
  refine Ev.eq' (j0a 0 (if_neg (by omega))) ?_
  unfold insB
  rw [i3, k3, show inB 3 1 7 = true from rfl, Bool.true_and, show impl_goodIns.h 3 = (true, true, false, false, false) from rfl, hP4, hP5, hd]
  exact gk34 _ _ _ _ _ _ _ _ _ _ _ _ _ hq htt hr hw hgg
 refine Ev.neg k3 ?_
 by_cases k4 : x.f0 = 4
 ·refine Ev.pos k4 ?_
  rw [show (x.f0 == 4) = true from beq_iff_eq.mpr k4]
  refine Ev.eq' (j0a 0 (if_neg (by omega))) ?_
  unfold insB
  rw [i3, k4, show inB 4 1 7 = true from rfl, Bool.true_and, show impl_goodIns.h 4 = (true, true, false, false, false) from rfl, hP4, hP5, hd]
  exact gk34 _ _ _ _ _ _ _ _ _ _ _ _ _ hq htt hr hw hgg
 refine Ev.neg k4 ?_
 by_cases k5 : x.f0 = 5
 ·rw [show (x.f0 == 5) = true from beq_iff_eq.mpr k5]
  refine Ev.eq' (j0a x.f3 (if_pos k5)) ?_
  unfold insB
  rw [i3, k5, show inB 5 1 7 = true from rfl, Bool.true_and, show impl_goodIns.h 5 = (true, true, true, false, false) from rfl, hP4, hP5, decide_eq_true rfl, Bool.true_and]
  exact gk5 _ _ _ _ _ _ _ _ _ _ _ _ _ hq hr hw hgg
 rw [show (x.f0 == 5) = false from beq_eq_false_iff_ne.mpr k5]
 refine Ev.step (fun k => spec_l11Ins.j0.eq_2 ..) (Ev.neg (by simp) ?_)
 by_cases k6 : x.f0 = 6
 ·refine Ev.pos k6 (Ev.eq' (tail 0 0 x.f3) ?_)
  unfold insB
  rw [i3, k6, show inB 6 1 7 = true from rfl, Bool.true_and, show impl_goodIns.h 6 = (false, false, true, false, false) from rfl, hP4, hP5, decide_eq_true (p := x.f3 = x.f3) rfl, Bool.true_and, hd, hd]
  exact gk6 _ _ _ _ _ _ _ _ _ _ _ _ _ hq hb hr hw hgg
 refine Ev.neg k6 ?_
 by_cases k7 : x.f0 = 7
 ·refine Ev.pos k7 (Ev.eq' (tail 0 0 0) ?_)
  unfold insB
  rw [i3, k7, show inB 7 1 7 = true from rfl, Bool.true_and, show impl_goodIns.h 7 = (false, false, false, false, false) from rfl, hP4, hP5, hd, hd, hd]
  exact gk7 _ _ _ _ _ _ _ _ _ _ _ _ _ hq hb htt hr hw hgg
 ·refine Ev.neg k7 (Ev.some' ?_)
  unfold insB
  rw [show inB x.f0 1 7 = false from by unfold inB; simp; omega, Bool.false_and]
structure SmallP (p : List INS) : Prop where
 len : p.length ≤ 1048576
 ins : ∀ x ∈ p, SmallI x
def progB (p : List INS) : Bool := decide (p.length ≤ 30) && p.all fun x => insB x (p.length : Int)
theorem specProg_l (p : List INS) (hp : SmallP p) : ∀ (d i : Nat), i + d = p.length → Ev (fun k => spec_GoodProg.l0 k p p (p.length : Int) (i : Int)) (decide (p.length ≤ 30) && (p.drop i).all fun x => insB x (p.length : Int))
 | 0, i, hd => by
  refine Ev.step (fun k => spec_GoodProg.l0.eq_2 ..) (Ev.neg (by omega) (Ev.some' ?_))
  rw [List.drop_eq_nil_of_le (by omega), List.all_nil, Bool.and_true]
  exact decide_eq_decide.mpr (by omega)
 | d + 1, i, hd => by
  have hlen := hp.len
  have ih := specProg_l p hp d (i + 1) (by omega)
  have hi : i < p.length := by omega
  rw [drop_cons p hi, List.all_cons, Bool.and_left_comm]
  refine Ev.step (fun k => spec_GoodProg.l0.eq_2 ..) (Ev.pos (by omega) (Ev.pos (by omega) (Ev.pos (by omega) ?_)))
  rw [rdINS_eq p hi]
  refine Ev.andb (specIns p _ (hp.ins _ (List.getElem_mem hi)) hlen) (fun _ => ?_)
  rw [w64s (by omega)]
  exact ih
theorem specProg (p : List INS) (hp : SmallP p) : Ev (fun k => spec_GoodProg.f k p) (progB p) := by
 unfold spec_GoodProg.f
 exact specProg_l p hp p.length 0 (by omega)
theorem implProg (p : List INS) (hp : SmallP p) : Ev (fun k => impl_GoodProg.f k p) (progB p) := by
 unfold impl_GoodProg.f progB
 have ha : Ev (fun k => slices_ContainsFunc_impl_Ins_87.f k p p) (p.any fun x => !insB x (p.length : Int)) := by
  unfold slices_ContainsFunc_impl_Ins_87.f
  refine Ev.anyO (p := fun k (x : INS) => impl_GoodProg_1.f k x p) (q := fun x => !insB x (p.length : Int)) (fun x hx => ?_)
  unfold impl_GoodProg_1.f
  exact Ev.bind (implIns x (hp.ins x hx) _) (Ev.now _)
 by_cases h : p.length ≤ 30
 ·rw [decide_eq_true h, Bool.true_and]
  refine Ev.pos (by omega) (Ev.bind ha (Ev.some' ?_))
  rw [← List.not_all_eq_any_not, Bool.not_not]
 ·rw [decide_eq_false h, Bool.false_and]
  exact Ev.neg (by omega) (Ev.now _)
end Go.Proofs.Ytkpeihdlmjdejaa.Pure
