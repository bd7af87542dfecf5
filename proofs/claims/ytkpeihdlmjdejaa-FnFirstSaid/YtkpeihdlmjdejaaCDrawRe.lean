/- Plain laws of what is drawn: patterns and streams that the reference speaks of. -/
import Derived.Test.YtkpeihdlmjdejaaCP0
import Derived.Test.YtkpeihdlmjdejaaC5
import Derived.Test.YtkpeihdlmjdejaaC6
import Derived.Test.YtkpeihdlmjdejaaCDrawSets
import Derived.Test.YtkpeihdlmjdejaaCRes
set_option linter.unusedVariables false
set_option linter.unusedSimpArgs false
namespace Go.Proofs.Ytkpeihdlmjdejaa.Pure
open Go.RowKit Go.Proofs.Ytkpeihdlmjdejaa.P Go.Proofs.YtkpeihdlmjdejaaW.PrintWords
structure TreeR (p : List RE) (n : Nat) : Prop where
 len : p.length ≤ n
 sets : ∀ x ∈ p, x.f1.length ≤ 1000
 pile : ∀ (t : List RE) (h : Int), 0 ≤ h → pileB (p ++ t) h = pileB t (h + 1)
theorem pileB_cons (x : RE) (t : List RE) (n : Int) : pileB (x :: t) n = (nodeB x && (decide (arity x.f0 ≤ n) && pileB t (n + 1 - arity x.f0))) := rfl
theorem TreeR.leaf {x : RE} (ha : arity x.f0 = 0) (hs : setOk x = true) : TreeR [x] 1 := by
 refine ⟨by simp, fun y hy => ?_, fun t h h0 => ?_⟩
 ·rw [List.mem_singleton.1 hy]
  unfold setOk at hs
  simp only [Bool.and_eq_true] at hs
  have := (goodSet_len hs.1).1
  omega
 ·rw [List.singleton_append, pileB_cons]
  unfold nodeB
  rw [ha, hs, decide_eq_true h0, show h + 1 - 0 = h + 1 by omega]
  simp
theorem TreeR.un {p : List RE} {n : Nat} (hp : TreeR p n) {x : RE} (ha : arity x.f0 = 1) (hs : setOk x = true) : TreeR (p ++ [x]) (n + 1) := by
 refine ⟨by have := hp.len; simp; omega, fun y hy => ?_, fun t h h0 => ?_⟩
 ·rcases List.mem_append.1 hy with hy | hy
  ·exact hp.sets y hy
  ·rw [List.mem_singleton.1 hy]
   unfold setOk at hs
   simp only [Bool.and_eq_true] at hs
   have := (goodSet_len hs.1).1
   omega
 ·rw [List.append_assoc, hp.pile _ h h0]
  rw [List.singleton_append, pileB_cons]
  unfold nodeB
  rw [ha, hs, decide_eq_true (show (1 : Int) ≤ h + 1 by omega), show h + 1 + 1 - 1 = h + 1 by omega]
  simp
theorem TreeR.bin {p q : List RE} {n m : Nat} (hp : TreeR p n) (hq : TreeR q m) {x : RE} (ha : arity x.f0 = 2) (hs : setOk x = true) : TreeR (p ++ q ++ [x]) (n + m + 1) := by
 refine ⟨by have := hp.len; have := hq.len; simp; omega, fun y hy => ?_, fun t h h0 => ?_⟩
 ·rcases List.mem_append.1 hy with hy | hy
  ·rcases List.mem_append.1 hy with hy | hy
   ·exact hp.sets y hy
   ·exact hq.sets y hy
  ·rw [List.mem_singleton.1 hy]
   unfold setOk at hs
   simp only [Bool.and_eq_true] at hs
   have := (goodSet_len hs.1).1
   omega
 ·rw [List.append_assoc, List.append_assoc, hp.pile _ h h0, hq.pile _ (h + 1) (by omega)]
  rw [List.singleton_append, pileB_cons]
  unfold nodeB
  rw [ha, hs, decide_eq_true (show (2 : Int) ≤ h + 1 + 1 by omega), show h + 1 + 1 + 1 - 2 = h + 1 by omega]
  simp
theorem TreeR.mono {p : List RE} {n m : Nat} (hp : TreeR p n) (h : n ≤ m) : TreeR p m := ⟨Nat.le_trans hp.len h, hp.sets, hp.pile⟩
theorem TreeR.good {p : List RE} {n : Nat} (hp : TreeR p n) (hn : n ≤ 40) : goodReB p = true := by
 unfold goodReB
 have := hp.pile [] 0 (by omega)
 rw [List.append_nil] at this
 rw [this, decide_eq_true (Nat.le_trans hp.len hn)]
 rfl
theorem TreeR.small {p : List RE} {n : Nat} (hp : TreeR p n) (hn : n ≤ 40) : SmallR p := ⟨by have := hp.len; omega, fun x hx => by have := hp.sets x hx; omega⟩
theorem setOk_nil (op : Int) : setOk (⟨op, []⟩ : RE) = true := by
 unfold setOk
 simp [goodSetB, allFrom]
theorem setOk_two {l : List Int} (h1 : goodSetB l = true) (h2 : l.all runeB = true) : setOk (⟨2, l⟩ : RE) = true := by
 unfold setOk
 simp only [h1, h2]
 rfl
theorem cur_re_leaf {c : List Int} (hc : isBytes c) (x1 : Int) (x2 : Bool) (at_ s : Int) (h0 : 0 ≤ at_) (h1 : at_ ≤ 1000000) : ∃ p at' s', Ev (fun k => spec_l1Cur_re.j0 k x1 x2 true c at_ s) (p, at', s') ∧ TreeR p 1 ∧ at_ ≤ at' ∧ at' ≤ at_ + 40 := by
 obtain ⟨v, at1, s1, e1, g1, g2, g3, g4⟩ := cur_pick hc at_ s 8 h0 (by omega) (by omega)
 by_cases c1 : v = 0
 ·exact ⟨_, at1, s1, Ev.step (fun k => spec_l1Cur_re.j0.eq_2 ..) (Ev.pos rfl (Ev.bind0 e1 (Ev.pos c1 (Ev.now _)))), TreeR.leaf rfl (setOk_nil 1), by omega, by omega⟩
 by_cases c2 : v = 1
 ·obtain ⟨l, at2, s2, e2, g5, g6, g7⟩ := cur_set hc at1 s1 (by omega) (by omega)
  cases ha : l.all runeB
  ·refine ⟨_, at2, s2, Ev.step (fun k => spec_l1Cur_re.j0.eq_2 ..) (Ev.pos rfl (Ev.bind0 e1 (Ev.neg c1 (Ev.pos c2 (Ev.bind e2 (Ev.bind (l1AllRunes l (by omega)) ?_)))))), TreeR.leaf rfl (setOk_nil 2), by omega, by omega⟩
   rw [ha]
   exact Ev.neg (by simp) (Ev.now _)
  cases hg : goodSetB l
  ·refine ⟨_, at2, s2, Ev.step (fun k => spec_l1Cur_re.j0.eq_2 ..) (Ev.pos rfl (Ev.bind0 e1 (Ev.neg c1 (Ev.pos c2 (Ev.bind e2 (Ev.bind (l1AllRunes l (by omega)) ?_)))))), TreeR.leaf rfl (setOk_nil 2), by omega, by omega⟩
   rw [ha, decide_eq_true (show l.length ≤ 1000 by omega)]
   refine Ev.pos rfl (Ev.bind (specGoodSet l (by omega)) ?_)
   rw [hg]
   exact Ev.neg (by simp) (Ev.now _)
  ·refine ⟨_, at2, s2, Ev.step (fun k => spec_l1Cur_re.j0.eq_2 ..) (Ev.pos rfl (Ev.bind0 e1 (Ev.neg c1 (Ev.pos c2 (Ev.bind e2 (Ev.bind (l1AllRunes l (by omega)) ?_)))))), TreeR.leaf rfl (setOk_two hg ha), by omega, by omega⟩
   rw [ha, decide_eq_true (show l.length ≤ 1000 by omega)]
   refine Ev.pos rfl (Ev.bind (specGoodSet l (by omega)) ?_)
   rw [hg]
   exact Ev.pos rfl (Ev.now _)
 by_cases c3 : v = 2
 ·exact ⟨_, at1, s1, Ev.step (fun k => spec_l1Cur_re.j0.eq_2 ..) (Ev.pos rfl (Ev.bind0 e1 (Ev.neg c1 (Ev.neg c2 (Ev.pos c3 (Ev.now _)))))), TreeR.leaf rfl (setOk_two (by decide) (by decide)), by omega, by omega⟩
 ·obtain ⟨w, at2, s2, e2, g5, g6, g7⟩ := cur_among hc at1 s1 [97, 97, 98, 99, 65, 12354, 42, 45] (by decide) (by decide) (by omega) (by omega)
  refine ⟨_, at2, s2, Ev.step (fun k => spec_l1Cur_re.j0.eq_2 ..) (Ev.pos rfl (Ev.bind0 e1 (Ev.neg c1 (Ev.neg c2 (Ev.neg c3 (Ev.bind0 e2 (Ev.now _))))))), TreeR.leaf rfl ?_, by omega, by omega⟩
  have : ∀ w ∈ ([97, 97, 98, 99, 65, 12354, 42, 45] : List Int), setOk (⟨2, [w, w]⟩ : RE) = true := by decide
  exact this w g5
def capR : Nat → Int
 | 0 => 60
 | d + 1 => 2 * capR d + 10
def szR : Nat → Nat
 | 0 => 1
 | d + 1 => 2 * szR d + 1
theorem capR_ge : ∀ d, 60 ≤ capR d
 | 0 => by decide
 | d + 1 => by have := capR_ge d; unfold capR; omega
theorem szR_ge : ∀ d, 1 ≤ szR d
 | 0 => by decide
 | d + 1 => by unfold szR; omega
theorem cur_re_j2 {c : List Int} (d : Nat) (hd : d ≤ 1000) (hn : szR d ≤ 1000) (x2 : Bool) (ih : ∀ at_ s : Int, 0 ≤ at_ → at_ + capR d ≤ 100000 → ∃ p at' s', Ev (fun k => spec_l1Cur_re.f k c at_ s (d : Int) x2) (p, at', s') ∧ TreeR p (szR d) ∧ at_ ≤ at' ∧ at' ≤ at_ + capR d)
  (op : Int) (hop : op ∈ ([3, 3, 4, 4, 6, 6, 5, 7] : List Int)) (at_ s : Int) (h0 : 0 ≤ at_) (h1 : at_ + 2 * capR d ≤ 100000) : ∃ p at' s', Ev (fun k => spec_l1Cur_re.j2 k ((d + 1 : Nat) : Int) x2 op c at_ s) (p, at', s') ∧ TreeR p (2 * szR d + 1) ∧ at_ ≤ at' ∧ at' ≤ at_ + 2 * capR d := by
 have hw : wrap64 (((d + 1 : Nat) : Int) - 1) = (d : Int) := by rw [w64 (by omega) (by omega)]; omega
 have hcap := capR_ge d
 have hsz := szR_ge d
 obtain ⟨p, at1, s1, e1, t1, g1, g2⟩ := ih at_ s h0 (by omega)
 have hl := t1.len
 by_cases ha : arity op = 2
 ·obtain ⟨q, at2, s2, e2, t2, g3, g4⟩ := ih at1 s1 (by omega) (by omega)
  have hl2 := t2.len
  refine ⟨p ++ q ++ [⟨op, []⟩], at2, s2, Ev.step (fun k => spec_l1Cur_re.j2.eq_2 ..) ?_, (t1.bin t2 ha (setOk_nil op)).mono (by omega), by omega, by omega⟩
  rw [hw]
  refine Ev.bind e1 (Ev.bind (specArity op) (Ev.pos ha (Ev.bind e2 (Ev.pos (by simp only []; omega) (Ev.bind0 rfl (Ev.pos (by simp; omega) (Ev.now _)))))))
 ·have ha1 : arity op = 1 := by
   have : ∀ x ∈ ([3, 3, 4, 4, 6, 6, 5, 7] : List Int), arity x = 2 ∨ arity x = 1 := by decide
   exact (this op hop).resolve_left ha
  refine ⟨p ++ [⟨op, []⟩], at1, s1, Ev.step (fun k => spec_l1Cur_re.j2.eq_2 ..) ?_, (t1.un ha1 (setOk_nil op)).mono (by omega), by omega, by omega⟩
  rw [hw]
  exact Ev.bind e1 (Ev.bind (specArity op) (Ev.neg ha (Ev.pos (by simp only []; omega) (Ev.now _))))
theorem cur_re_j1 {c : List Int} (d : Nat) (hd : d ≤ 1000) (hn : szR d ≤ 1000) (x2 : Bool) (ih : ∀ at_ s : Int, 0 ≤ at_ → at_ + capR d ≤ 100000 → ∃ p at' s', Ev (fun k => spec_l1Cur_re.f k c at_ s (d : Int) x2) (p, at', s') ∧ TreeR p (szR d) ∧ at_ ≤ at' ∧ at' ≤ at_ + capR d)
  (op : Int) (hop : op ∈ ([3, 3, 4, 4, 6, 6, 5, 7] : List Int)) (b : Bool) (at_ s : Int) (h0 : 0 ≤ at_) (h1 : at_ + 2 * capR d ≤ 100000) : ∃ p at' s', Ev (fun k => spec_l1Cur_re.j1 k ((d + 1 : Nat) : Int) x2 op b c at_ s) (p, at', s') ∧ TreeR p (2 * szR d + 1) ∧ at_ ≤ at' ∧ at' ≤ at_ + 2 * capR d := by
 cases b
 ·obtain ⟨p, at1, s1, e1, t⟩ := cur_re_j2 d hd hn x2 ih op hop at_ s h0 h1
  exact ⟨p, at1, s1, Ev.step (fun k => spec_l1Cur_re.j1.eq_2 ..) (Ev.neg (by simp) e1), t⟩
 ·obtain ⟨p, at1, s1, e1, t⟩ := cur_re_j2 d hd hn x2 ih 3 (by decide) at_ s h0 h1
  exact ⟨p, at1, s1, Ev.step (fun k => spec_l1Cur_re.j1.eq_2 ..) (Ev.pos rfl e1), t⟩
theorem cur_re {c : List Int} (hc : isBytes c) (x2 : Bool) : ∀ (d : Nat), d ≤ 1000 → szR d ≤ 2000 → ∀ (at_ s : Int), 0 ≤ at_ → at_ + capR d ≤ 100000 → ∃ p at' s', Ev (fun k => spec_l1Cur_re.f k c at_ s (d : Int) x2) (p, at', s') ∧ TreeR p (szR d) ∧ at_ ≤ at' ∧ at' ≤ at_ + capR d
 | 0, hd, hn, at_, s, h0, h1 => by
  unfold capR at h1
  obtain ⟨p, at1, s1, e1, t1, g1, g2⟩ := cur_re_leaf hc 0 x2 at_ s h0 (by omega)
  exact ⟨p, at1, s1, Ev.step (fun k => spec_l1Cur_re.f.eq_2 ..) (Ev.pos rfl e1), t1, g1, by unfold capR; omega⟩
 | d + 1, hd, hn, at_, s, h0, h1 => by
  have hcap := capR_ge d
  unfold capR at h1 ⊢
  unfold szR at hn ⊢
  have ih := cur_re hc x2 d (by omega) (by omega)
  obtain ⟨b, at1, s1, e1, g1, g2⟩ := cur_one hc at_ s 4 h0 (by omega) (by omega)
  cases b
  ·obtain ⟨op, at2, s2, e2, hop, g3, g4⟩ := cur_among hc at1 s1 [3, 3, 4, 4, 6, 6, 5, 7] (by decide) (by decide) (by omega) (by omega)
   have hj := fun b => cur_re_j1 d (by omega) (by omega) x2 ih op hop b at2 s2 (by omega) (by omega)
   cases x2
   ·obtain ⟨p, at3, s3, e3, t3, g5, g6⟩ := hj false
    exact ⟨p, at3, s3, Ev.step (fun k => spec_l1Cur_re.f.eq_2 ..) (Ev.neg (by omega) (Ev.bind0 e1 (Ev.step (fun k => spec_l1Cur_re.j0.eq_2 ..) (Ev.neg (by simp) (Ev.bind0 e2 (Ev.neg (by simp) e3)))))), t3, by omega, by omega⟩
   ·by_cases c5 : op = 5
    ·obtain ⟨p, at3, s3, e3, t3, g5, g6⟩ := hj true
     exact ⟨p, at3, s3, Ev.step (fun k => spec_l1Cur_re.f.eq_2 ..) (Ev.neg (by omega) (Ev.bind0 e1 (Ev.step (fun k => spec_l1Cur_re.j0.eq_2 ..) (Ev.neg (by simp) (Ev.bind0 e2 (Ev.pos rfl (Ev.pos c5 e3))))))), t3, by omega, by omega⟩
    ·obtain ⟨p, at3, s3, e3, t3, g5, g6⟩ := hj (op == 7)
     exact ⟨p, at3, s3, Ev.step (fun k => spec_l1Cur_re.f.eq_2 ..) (Ev.neg (by omega) (Ev.bind0 e1 (Ev.step (fun k => spec_l1Cur_re.j0.eq_2 ..) (Ev.neg (by simp) (Ev.bind0 e2 (Ev.pos rfl (Ev.neg c5 e3))))))), t3, by omega, by omega⟩
  ·obtain ⟨p, at2, s2, e2, t2, g3, g4⟩ := cur_re_leaf hc ((d + 1 : Nat) : Int) x2 at1 s1 (by omega) (by omega)
   exact ⟨p, at2, s2, Ev.step (fun k => spec_l1Cur_re.f.eq_2 ..) (Ev.neg (by omega) (Ev.bind0 e1 e2)), t2.mono (by omega), by omega, by omega⟩
theorem cur_word_l {c : List Int} (hc : isBytes c) : ∀ (d : Nat) (x : List Int) (at_ s : Int), 0 ≤ at_ → at_ + 2 * d ≤ 1000000 → x.length + d ≤ 40 → x.all runeB = true → ∃ l at' s', Ev (fun k => spec_l1Cur_word.l0 k x (d : Int) c at_ s) (l, at', s') ∧ l.all runeB = true ∧ l.length ≤ 41 ∧ at_ ≤ at' ∧ at' ≤ at_ + 2 * d + 4
 | 0, x, at_, s, h0, h1, h2, h3 => by
  obtain ⟨b, at1, s1, e1, g1, g2⟩ := cur_one hc at_ s 40 h0 (by omega) (by omega)
  cases b
  ·exact ⟨x, at1, s1, Ev.step (fun k => spec_l1Cur_word.l0.eq_2 ..) (Ev.neg (by omega) (Ev.bind0 e1 (Ev.neg (by simp) (Ev.now _)))), h3, by omega, by omega, by omega⟩
  ·obtain ⟨v, at2, s2, e2, g3, g4, g5, g6⟩ := cur_pick hc at1 s1 2 (by omega) (by omega) (by omega)
   have hw : wrap64 (40 + v) = 40 + v := w64 (by omega) (by omega)
   refine ⟨List.replicate (40 + v).toNat 0, at2, s2, Ev.step (fun k => spec_l1Cur_word.l0.eq_2 ..) (Ev.neg (by omega) (Ev.bind0 e1 (Ev.pos rfl (Ev.bind0 e2 ?_)))), ?_, by simp; omega, by omega, by omega⟩
   ·simp only [hw]
    exact Ev.pos (by omega) (Ev.pos (by omega) (Ev.now _))
   ·rw [List.all_eq_true]
    intro y hy
    rw [List.eq_of_mem_replicate hy]
    decide
 | d + 1, x, at_, s, h0, h1, h2, h3 => by
  obtain ⟨v, at1, s1, e1, hv, g2, g3⟩ := cur_among hc at_ s [97, 97, 98, 98, 99, 65, 12354, 42] (by decide) (by decide) h0 (by omega)
  have hr : ∀ w ∈ ([97, 97, 98, 98, 99, 65, 12354, 42] : List Int), runeB w = true := by decide
  obtain ⟨l, at2, s2, e2, g4, g5, g6, g7⟩ := cur_word_l hc d (x ++ [v]) at1 s1 (by omega) (by omega) (by simp; omega) (by rw [List.all_append, h3]; simp [hr v hv])
  refine ⟨l, at2, s2, Ev.step (fun k => spec_l1Cur_word.l0.eq_2 ..) (Ev.pos (by omega) (Ev.bind0 e1 (Ev.pos (by omega) ?_))), g4, g5, by omega, by omega⟩
  rw [w64 (by omega) (by omega), show ((d + 1 : Nat) : Int) - 1 = (d : Int) from by omega]
  exact e2
theorem cur_word {c : List Int} (hc : isBytes c) (at_ s : Int) (h0 : 0 ≤ at_) (h1 : at_ ≤ 100000) : ∃ l at' s', Ev (fun k => spec_l1Cur_word.f k c at_ s) (l, at', s') ∧ l.all runeB = true ∧ l.length ≤ 41 ∧ at_ ≤ at' ∧ at' ≤ at_ + 20 := by
 unfold spec_l1Cur_word.f
 obtain ⟨v, at1, s1, e1, g1, g2, g3, g4⟩ := cur_pick hc at_ s 7 h0 (by omega) (by omega)
 obtain ⟨l, at2, s2, e2, g5, g6, g7, g8⟩ := cur_word_l hc v.toNat [] at1 s1 (by omega) (by omega) (by simp; omega) rfl
 rw [Int.toNat_of_nonneg g1] at e2
 exact ⟨l, at2, s2, Ev.bind0 e1 e2, g5, g6, by omega, by omega⟩
theorem cur_stream_l {c : List Int} (hc : isBytes c) : ∀ (d : Nat) (x : List Int) (at_ s : Int), 0 ≤ at_ → at_ + 20 * d ≤ 100000 → x.length + 41 * d ≤ 200 → x.all runeB = true → ∃ l at' s', Ev (fun k => spec_l1Cur_stream.l0 k x (d : Int) c at_ s) (l, at', s') ∧ l.all runeB = true ∧ l.length ≤ 200
 | 0, x, at_, s, h0, h1, h2, h3 => by
  by_cases cl : (x.length : Int) > 60
  ·obtain ⟨b, at1, s1, e1, g1, g2⟩ := cur_one hc at_ s 20 h0 (by omega) (by omega)
   cases b
   ·refine ⟨x.take (10 : Int).toNat, at1, s1, Ev.step (fun k => spec_l1Cur_stream.l0.eq_2 ..) (Ev.neg (by omega) (Ev.pos cl (Ev.bind0 e1 (Ev.neg (by simp) (Ev.pos (by omega) (Ev.now _)))))), ?_, by simp; omega⟩
    rw [List.all_eq_true] at h3 ⊢
    exact fun y hy => h3 y (List.mem_of_mem_take hy)
   ·exact ⟨x, at1, s1, Ev.step (fun k => spec_l1Cur_stream.l0.eq_2 ..) (Ev.neg (by omega) (Ev.pos cl (Ev.bind0 e1 (Ev.pos rfl (Ev.now _))))), h3, by omega⟩
  ·exact ⟨x, at_, s, Ev.step (fun k => spec_l1Cur_stream.l0.eq_2 ..) (Ev.neg (by omega) (Ev.neg cl (Ev.now _))), h3, by omega⟩
 | d + 1, x, at_, s, h0, h1, h2, h3 => by
  obtain ⟨w, at1, s1, e1, g1, g2, g3, g4⟩ := cur_word hc at_ s h0 (by omega)
  obtain ⟨l, at2, s2, e2, g5, g6⟩ := cur_stream_l hc d (x ++ w) at1 s1 (by omega) (by omega) (by simp; omega) (by rw [List.all_append, h3, g1]; rfl)
  refine ⟨l, at2, s2, Ev.step (fun k => spec_l1Cur_stream.l0.eq_2 ..) (Ev.pos (by omega) (Ev.bind e1 (Ev.pos (by simp only []; omega) ?_))), g5, g6⟩
  rw [w64 (by omega) (by omega), show ((d + 1 : Nat) : Int) - 1 = (d : Int) from by omega]
  exact e2
theorem cur_stream {c : List Int} (hc : isBytes c) (at_ s : Int) (h0 : 0 ≤ at_) (h1 : at_ ≤ 10000) : ∃ l at' s', Ev (fun k => spec_l1Cur_stream.f k c at_ s) (l, at', s') ∧ l.all runeB = true ∧ l.length ≤ 200 := by
 unfold spec_l1Cur_stream.f
 obtain ⟨w, at1, s1, e1, g1, g2, g3, g4⟩ := cur_word hc at_ s h0 (by omega)
 obtain ⟨v, at2, s2, e2, g5, g6, g7, g8⟩ := cur_pick hc at1 s1 3 (by omega) (by omega) (by omega)
 obtain ⟨l, at3, s3, e3, g9, g10⟩ := cur_stream_l hc v.toNat w at2 s2 (by omega) (by omega) (by omega) g1
 rw [Int.toNat_of_nonneg g5] at e3
 exact ⟨l, at3, s3, Ev.bind e1 (Ev.bind0 e2 e3), g9, g10⟩
end Go.Proofs.Ytkpeihdlmjdejaa.Pure
