/- Plain laws: the program's table of what each node matches. -/
import Derived.Test.YtkpeihdlmjdejaaCP0
import Derived.Test.YtkpeihdlmjdejaaC2
import Derived.Test.YtkpeihdlmjdejaaC3
import Derived.Test.YtkpeihdlmjdejaaCTrees
set_option linter.unusedVariables false
set_option linter.unusedSimpArgs false
namespace Go.Proofs.Ytkpeihdlmjdejaa.Pure
open Go.RowKit Go.Proofs.Ytkpeihdlmjdejaa.P Go.Proofs.YtkpeihdlmjdejaaW.PrintWords
def cellB (t : T) (l : List Int) (a b : Nat) : Bool := decide (a ≤ b) && den t (seg l a b)
theorem cellB_le {t : T} {l : List Int} {a b : Nat} (h : a ≤ b) : cellB t l a b = den t (seg l a b) := by
 unfold cellB
 rw [decide_eq_true h, Bool.true_and]
theorem cellB_gt {t : T} {l : List Int} {a b : Nat} (h : b < a) : cellB t l a b = false := by
 unfold cellB
 rw [decide_eq_false (by omega), Bool.false_and]
def gridF (n : Nat) (F : Nat → Nat → Bool) : List (List Bool) := (List.range n).map fun i => (List.range n).map (F i)
theorem gridF_length (n : Nat) (F : Nat → Nat → Bool) : (gridF n F).length = n := by simp [gridF]
theorem gridF_row {n : Nat} {F : Nat → Nat → Bool} {a : Nat} (ha : a < n) : (gridF n F).getD a [] = (List.range n).map (F a) := by
 unfold gridF
 rw [List.getD_eq_getElem?_getD, List.getElem?_map, List.getElem?_range ha]
 rfl
theorem gridF_at {n : Nat} {F : Nat → Nat → Bool} {a b : Nat} (ha : a < n) (hb : b < n) : ((gridF n F).getD a []).getD b false = F a b := by
 rw [gridF_row ha, List.getD_eq_getElem?_getD, List.getElem?_map, List.getElem?_range hb]
 rfl
theorem gridF_congr {n : Nat} {F G : Nat → Nat → Bool} (h : ∀ a, a < n → ∀ b, b < n → F a b = G a b) : gridF n F = gridF n G := by
 unfold gridF
 refine List.map_congr_left (fun a ha => ?_)
 refine List.map_congr_left (fun b hb => ?_)
 exact h a (List.mem_range.1 ha) b (List.mem_range.1 hb)
theorem gridF_set {n : Nat} {F : Nat → Nat → Bool} {a x : Nat} (ha : a < n) (hx : x < n) (u : Bool) : (gridF n F).set a (((gridF n F).getD a []).set x u) = gridF n (fun i j => if i = a ∧ j = x then u else F i j) := by
 rw [gridF_row ha]
 apply List.ext_getElem?
 intro i
 unfold gridF
 by_cases hi : i < n
 ·by_cases e : a = i
  ·subst e
   rw [List.getElem?_set_self (by simpa using ha), List.getElem?_map, List.getElem?_range hi]
   simp only [Option.map_some, Option.some.injEq]
   apply List.ext_getElem?
   intro j
   by_cases hj : j < n
   ·by_cases e2 : x = j
    ·subst e2
     rw [List.getElem?_set_self (by simpa using hj), List.getElem?_map, List.getElem?_range hj]
     simp
    ·rw [List.getElem?_set_ne e2, List.getElem?_map, List.getElem?_map, List.getElem?_range hj]
     have : ¬ (j = x) := fun h => e2 h.symm
     simp [this]
   ·rw [List.getElem?_eq_none (by simp; omega), List.getElem?_eq_none (by simp; omega)]
  ·rw [List.getElem?_set_ne e, List.getElem?_map, List.getElem?_map, List.getElem?_range hi]
   have : ¬ (i = a) := fun h => e h.symm
   simp [this]
 ·rw [List.getElem?_eq_none (by simp; omega), List.getElem?_eq_none (by simp; omega)]
theorem gridF_false (n : Nat) : List.replicate n (List.replicate n false) = gridF n (fun _ _ => false) := by
 unfold gridF
 rw [List.map_const', List.map_const', List.length_range]
theorem has_grid {tbl : List (List (List Bool))} {node n a b : Nat} {F : Nat → Nat → Bool} (hn : tbl.getD node [] = gridF n F) (hl : node < tbl.length) (ha : a < n) (hb : b < n) : impl_matcher_has.f tbl (node : Int) (a : Int) (b : Int) = some (F a b) := by
 unfold impl_matcher_has.f impl_matcher_has.at
 simp only [Int.toNat_natCast]
 rw [hn, gridF_at ha hb, gridF_length, gridF_row ha, List.length_map, List.length_range]
 exact if_pos ⟨⟨by omega, by omega⟩, ⟨by omega, by omega⟩, by omega, by omega⟩
def gridR (t : T) (l : List Int) : List (List Bool) := gridF (l.length + 1) (cellB t l)
def filled (t : T) (l : List Int) (a x : Nat) (i j : Nat) : Bool := decide (a < i ∨ (i = a ∧ j < x)) && cellB t l i j
def below (t : T) (l : List Int) (c : Nat) (i j : Nat) : Bool := decide (c ≤ i) && cellB t l i j
theorem filled_start (t : T) (l : List Int) (n a : Nat) : gridF n (filled t l a a) = gridF n (below t l (a + 1)) := by
 refine gridF_congr (fun i _ j _ => ?_)
 unfold filled below
 by_cases h : i = a ∧ j < a
 ·rw [cellB_gt (by omega), Bool.and_false, Bool.and_false]
 ·rw [show decide (a < i ∨ (i = a ∧ j < a)) = decide (a + 1 ≤ i) from decide_eq_decide.2 (by omega)]
theorem filled_end (t : T) (l : List Int) (n a : Nat) : gridF n (filled t l a n) = gridF n (below t l a) := by
 refine gridF_congr (fun i _ j hj => ?_)
 unfold filled below
 rw [show decide (a < i ∨ (i = a ∧ j < n)) = decide (a ≤ i) from decide_eq_decide.2 (by omega)]
theorem below_top (t : T) (l : List Int) (n : Nat) : gridF n (below t l n) = gridF n (fun _ _ => false) := by
 refine gridF_congr (fun i hi j _ => ?_)
 unfold below
 rw [decide_eq_false (by omega), Bool.false_and]
theorem below_zero (t : T) (l : List Int) : gridF (l.length + 1) (below t l 0) = gridR t l := by
 refine gridF_congr (fun i _ j _ => ?_)
 unfold below
 rw [decide_eq_true (by omega), Bool.true_and]
theorem filled_put (t : T) (l : List Int) (n a x : Nat) (ha : a < n) (hx : x < n) : (gridF n (filled t l a x)).set a (((gridF n (filled t l a x)).getD a []).set x (cellB t l a x)) = gridF n (filled t l a (x + 1)) := by
 rw [gridF_set ha hx]
 refine gridF_congr (fun i _ j _ => ?_)
 unfold filled
 by_cases h : i = a ∧ j = x
 ·rw [if_pos h, h.1, h.2, decide_eq_true (by omega), Bool.true_and]
 ·rw [if_neg h, show decide (a < i ∨ (i = a ∧ j < x)) = decide (a < i ∨ (i = a ∧ j < x + 1)) from decide_eq_decide.2 (by omega)]
def olds (p : List RE) (l : List Int) (i : Nat) : List (List (List Bool)) := (List.range i).map fun j => gridR (trAt p j) l
theorem olds_length (p : List RE) (l : List Int) (i : Nat) : (olds p l i).length = i := by simp [olds]
theorem olds_succ (p : List RE) (l : List Int) (i : Nat) : olds p l (i + 1) = olds p l i ++ [gridR (trAt p i) l] := by simp [olds, List.range_succ]
theorem olds_get {p : List RE} {l : List Int} {i j : Nat} {R : List (List Bool)} (h : j < i) : (olds p l i ++ [R]).getD j [] = gridR (trAt p j) l := by
 rw [List.getD_eq_getElem?_getD, List.getElem?_append_left (by rw [olds_length]; exact h)]
 unfold olds
 rw [List.getElem?_map, List.getElem?_range h]
 rfl
theorem olds_last {p : List RE} {l : List Int} {i : Nat} {R : List (List Bool)} : (olds p l i ++ [R]).getD i [] = R := by
 rw [List.getD_eq_getElem?_getD, List.getElem?_append_right (by rw [olds_length]; omega), olds_length, Nat.sub_self]
 rfl
theorem has_old {p : List RE} {l : List Int} {i j a b : Nat} {R : List (List Bool)} (h : j < i) (ha : a ≤ l.length) (hb : b ≤ l.length) : impl_matcher_has.f (olds p l i ++ [R]) (j : Int) (a : Int) (b : Int) = some (cellB (trAt p j) l a b) :=
 has_grid (olds_get h) (by rw [List.length_append, olds_length]; simp; omega) (by omega) (by omega)
theorem has_own {p : List RE} {l : List Int} {i a b : Nat} {F : Nat → Nat → Bool} (ha : a ≤ l.length) (hb : b ≤ l.length) : impl_matcher_has.f (olds p l i ++ [gridF (l.length + 1) F]) (i : Int) (a : Int) (b : Int) = some (F a b) :=
 has_grid olds_last (by rw [List.length_append, olds_length]; simp) (by omega) (by omega)
theorem look_l0 {tbl : List (List (List Bool))} {n1 n2 : Int} {a b lo : Nat} {P1 P2 : Nat → Bool} (h1 : ∀ m : Nat, lo ≤ m → m ≤ b → impl_matcher_has.f tbl n1 (a : Int) (m : Int) = some (P1 m)) (h2 : ∀ m : Nat, lo ≤ m → m ≤ b → impl_matcher_has.f tbl n2 (m : Int) (b : Int) = some (P2 m)) :
  ∀ (d m : Nat), m + d = b + 1 → lo ≤ m → Ev (fun k => impl_matcher_look.l0 tbl n1 n2 (a : Int) (b : Int) k (m : Int)) (anyFrom (fun m => P1 m && P2 m) m d)
 | 0, m, hd, hm => Ev.step (fun k => impl_matcher_look.l0.eq_2 ..) (Ev.neg (by omega) (Ev.now _))
 | d + 1, m, hd, hm => by
  have ih := look_l0 h1 h2 d (m + 1) (by omega) (by omega)
  rw [show (((m + 1 : Nat)) : Int) = (m : Int) + 1 by omega] at ih
  refine Ev.step (fun k => impl_matcher_look.l0.eq_2 ..) (Ev.pos (by omega) (Ev.bind0 (h1 m hm (by omega)) ?_))
  simp only [anyFrom]
  cases c1 : P1 m
  ·refine Ev.neg (by simp) ?_
   rw [Bool.false_and, Bool.false_or]
   exact ih
  ·refine Ev.pos rfl (Ev.bind0 (h2 m hm (by omega)) ?_)
   cases c2 : P2 m
   ·refine Ev.neg (by simp) ?_
    simpa using ih
   ·exact Ev.pos rfl (Ev.some' (by simp))
theorem rd0 (a : Int) (r : List Int) : rd (a :: r) 0 = a := rfl
theorem rd1 (a b : Int) (r : List Int) : rd (a :: b :: r) 1 = b := rfl
theorem kids_get {p : List RE} {i : Nat} (hi : i < p.length) : ((List.range p.length).map (kidsAt p)).getD (i : Int).toNat [] = kidsAt p i := by
 rw [Int.toNat_natCast, List.getD_eq_getElem?_getD, List.getElem?_map, List.getElem?_range hi]
 rfl
theorem look_ev {p : List RE} (h : Ok p) (hp : SmallR p) {l : List Int} (hl : l.length ≤ 1000) {i a x : Nat} (hi : i < p.length) (hax : a ≤ x) (hx : x ≤ l.length) :
  Ev (fun k => impl_matcher_look.f k p ((List.range p.length).map (kidsAt p)) l (olds p l i ++ [gridF (l.length + 1) (filled (trAt p i) l a x)]) (i : Int) (a : Int) (x : Int)) (cellB (trAt p i) l a x) := by
 have hlen := hp.len
 unfold impl_matcher_look.f
 refine Ev.pos ⟨⟨by omega, by omega, by simp; omega⟩, ⟨by omega, by omega⟩, by omega, by omega⟩ ?_
 rw [kids_get hi, cellB_le hax]
 show Ev (fun k => impl_matcher_look.op k (rdR p i).f0 (rdR p i).f1 (kidsAt p i) l (olds p l i ++ [gridF (l.length + 1) (filled (trAt p i) l a x)]) (i : Int) (a : Int) (x : Int)) _
 obtain ⟨h0, h1⟩ := h.ar hi
 obtain ⟨a1, a2, a6, a7, a3⟩ := @arity_eq (rdR p i).f0
 unfold impl_matcher_look.op
 by_cases c1 : (rdR p i).f0 = 1
 ·rw [(tr_leaf i).1 c1, den_nil_seg l a x hx hax]
  refine Ev.pos c1 (Ev.some' ?_)
  rw [Bool.eq_iff_iff]
  simp
  omega
 refine Ev.neg c1 ?_
 by_cases c2 : (rdR p i).f0 = 2
 ·rw [(tr_leaf i).2 c2, den_set_seg _ l a x hx]
  refine Ev.pos c2 ?_
  by_cases c : x = a + 1
  ·rw [decide_eq_true c, Bool.true_and]
   have hs := hp.sets (rdR p i) (by rw [rdR_get hi]; exact List.getElem_mem _)
   exact Ev.pos (by omega) (Ev.pos (by omega) (implInSet _ _ (by omega)))
  ·rw [decide_eq_false c, Bool.false_and]
   exact Ev.neg (by omega) (Ev.now _)
 refine Ev.neg c2 ?_
 by_cases c7 : (rdR p i).f0 = 7
 ·obtain ⟨j1, hk, _, ht⟩ := tr_one h hi (a7 c7)
  rw [ht c7, hk]
  refine Ev.neg (by simp) (Ev.pos c7 (Ev.bind0 (has_old (by omega) (by omega) hx) (Ev.some' ?_)))
  rw [cellB_le hax]
  rfl
 by_cases c6 : (rdR p i).f0 = 6
 ·obtain ⟨j1, hk, ht, _⟩ := tr_one h hi (a6 c6)
  have ht := ht c6
  rw [hk]
  refine Ev.neg (by simp) (Ev.neg c7 (Ev.pos c6 ?_))
  by_cases c : a = x
  ·subst c
   rw [ht, den_star_nil]
   exact Ev.pos rfl (Ev.now _)
  ·refine Ev.neg (by omega) ?_
   have hq := look_l0 (tbl := olds p l i ++ [gridF (l.length + 1) (filled (trAt p i) l a x)]) (n1 := ((i - 1 : Nat) : Int)) (n2 := (i : Int)) (a := a) (b := x) (lo := a + 1) (P1 := fun m => cellB (trAt p (i - 1)) l a m) (P2 := fun m => filled (trAt p i) l a x m x)
    (fun m hm hm2 => has_old (by omega) (by omega) (by omega)) (fun m hm hm2 => has_own (by omega) hx) (x - a) (a + 1) (by omega) (Nat.le_refl _)
   rw [show (((a + 1 : Nat)) : Int) = (a : Int) + 1 by omega] at hq
   refine Ev.eq' hq ?_
   rw [ht, den_star_seg _ l a x hx (by omega)]
   refine anyFrom_congr _ _ (fun m hm hm2 => ?_)
   rw [cellB_le (by omega)]
   congr 1
   unfold filled
   rw [decide_eq_true (by omega), Bool.true_and, cellB_le (by omega)]
 have ha2 := (a3 c1 c2 c6 c7 h0).1
 have hop := (a3 c1 c2 c6 c7 h0).2
 obtain ⟨ea, eb, st, hst, e1, e2, e3, e4, hk, ht⟩ := tr_two h hi ha2
 generalize gridF (l.length + 1) (filled (trAt p i) l a x) = R
 rw [ht, hk]
 refine Ev.neg (by simp) (Ev.neg c7 (Ev.neg c6 (Ev.neg (by simp) ?_)))
 have k0 := has_old (p := p) (l := l) (R := R) (show ea.r < i by omega) (show a ≤ l.length by omega) hx
 have k1 := has_old (p := p) (l := l) (R := R) (show i - 1 < i by omega) (show a ≤ l.length by omega) hx
 rw [cellB_le hax] at k0 k1
 unfold two
 rw [rd0, rd1]
 by_cases c4 : (rdR p i).f0 = 4
 ·rw [if_pos c4]
  refine Ev.pos c4 (Ev.bind0 k0 ?_)
  simp only [den]
  cases den (trAt p ea.r) (seg l a x)
  ·refine Ev.neg (by simp) ?_
   rw [Bool.false_or]
   exact Ev.eq0 k1
  ·exact Ev.pos rfl (Ev.now _)
 rw [if_neg c4]
 refine Ev.neg c4 ?_
 by_cases c5 : (rdR p i).f0 = 5
 ·rw [if_pos c5]
  refine Ev.pos c5 (Ev.bind0 k0 ?_)
  simp only [den]
  cases den (trAt p ea.r) (seg l a x)
  ·exact Ev.neg (by simp) (Ev.now _)
  ·refine Ev.pos rfl ?_
   rw [Bool.true_and]
   exact Ev.eq0 k1
 rw [if_neg c5]
 refine Ev.neg c5 ?_
 have hq := look_l0 (tbl := olds p l i ++ [R]) (n1 := (ea.r : Int)) (n2 := ((i - 1 : Nat) : Int)) (a := a) (b := x) (lo := a) (P1 := fun m => cellB (trAt p ea.r) l a m) (P2 := fun m => cellB (trAt p (i - 1)) l m x)
  (fun m hm hm2 => has_old (by omega) (by omega) (by omega)) (fun m hm hm2 => has_old (by omega) (by omega) hx) (x + 1 - a) a (by omega) (Nat.le_refl _)
 refine Ev.eq' hq ?_
 rw [den_cat_seg _ _ l a x hx hax]
 refine anyFrom_congr _ _ (fun m hm hm2 => ?_)
 rw [cellB_le (by omega), cellB_le (by omega)]
theorem match_l2 {p : List RE} (h : Ok p) (hp : SmallR p) {l : List Int} (hl : l.length ≤ 1000) {i a : Nat} (hi : i < p.length) (ha : a ≤ l.length) {v : List (List (List Bool))} (hv : Ev (fun k => impl_match.l1 k p ((List.range p.length).map (kidsAt p)) l (olds p l i) (i : Int) (gridF (l.length + 1) (below (trAt p i) l a)) ((a : Int) - 1)) v) :
  ∀ (d x : Nat), x + d = l.length + 1 → a ≤ x → Ev (fun k => impl_match.l2 k p ((List.range p.length).map (kidsAt p)) l (olds p l i) (i : Int) (gridF (l.length + 1) (filled (trAt p i) l a x)) (a : Int) (x : Int)) v
 | 0, x, hd, hx => by
  obtain rfl : x = l.length + 1 := by omega
  refine Ev.step (fun k => impl_match.l2.eq_2 ..) (Ev.neg (by omega) ?_)
  rw [filled_end]
  exact hv
 | d + 1, x, hd, hx => by
  have ih := match_l2 h hp hl hi ha hv d (x + 1) (by omega) (by omega)
  rw [show (((x + 1 : Nat)) : Int) = (x : Int) + 1 by omega] at ih
  refine Ev.step (fun k => impl_match.l2.eq_2 ..) (Ev.pos (by omega) (Ev.bind (look_ev h hp hl hi hx (by omega)) ?_))
  rw [Int.toNat_natCast, Int.toNat_natCast, filled_put _ _ _ _ _ (by omega) (by omega)]
  exact ih
theorem match_l1 {p : List RE} (h : Ok p) (hp : SmallR p) {l : List Int} (hl : l.length ≤ 1000) {i : Nat} (hi : i < p.length) {v : List (List (List Bool))} (hv : Ev (fun k => impl_match.l0 k p ((List.range p.length).map (kidsAt p)) l (olds p l (i + 1)) ((i + 1 : Nat) : Int)) v) :
  ∀ c : Nat, c ≤ l.length + 1 → Ev (fun k => impl_match.l1 k p ((List.range p.length).map (kidsAt p)) l (olds p l i) (i : Int) (gridF (l.length + 1) (below (trAt p i) l c)) ((c : Int) - 1)) v
 | 0, _ => by
  refine Ev.step (fun k => impl_match.l1.eq_2 ..) (Ev.neg (by omega) ?_)
  rw [below_zero, ← olds_succ]
  exact hv
 | c + 1, hc => by
  have ih := match_l1 h hp hl hi hv c (by omega)
  refine Ev.step (fun k => impl_match.l1.eq_2 ..) (Ev.pos (by omega) ?_)
  have := match_l2 h hp hl hi (show c ≤ l.length by omega) ih (l.length + 1 - c) c (by omega) (Nat.le_refl _)
  rw [filled_start] at this
  rw [show (((c + 1 : Nat) : Int) - 1) = (c : Int) by omega]
  exact this
theorem match_l0 {p : List RE} (h : Ok p) (hp : SmallR p) {l : List Int} (hl : l.length ≤ 1000) : ∀ (d i : Nat), i + d = p.length → Ev (fun k => impl_match.l0 k p ((List.range p.length).map (kidsAt p)) l (olds p l i) (i : Int)) (olds p l p.length)
 | 0, i, hd => by
  obtain rfl : i = p.length := by omega
  exact Ev.step (fun k => impl_match.l0.eq_2 ..) (Ev.neg (by omega) (Ev.now _))
 | d + 1, i, hd => by
  have ih := match_l0 h hp hl d (i + 1) (by omega)
  refine Ev.step (fun k => impl_match.l0.eq_2 ..) (Ev.pos (by omega) ?_)
  have := match_l1 h hp hl (show i < p.length by omega) ih (l.length + 1) (Nat.le_refl _)
  rw [below_top, ← gridF_false] at this
  rw [show (((l.length + 1 : Nat) : Int) - 1) = (l.length : Int) by omega] at this
  exact this
theorem implMatch {p : List RE} (h : Ok p) (hp : SmallR p) (hp2 : p.length ≤ 1000) {l : List Int} (hl : l.length ≤ 1000) : Ev (fun k => impl_match.f k p l) ((List.range p.length).map (kidsAt p), olds p l p.length) := by
 unfold impl_match.f
 refine Ev.pos ⟨hp2, hl⟩ (Ev.bind (implParts p hp.len) ?_)
 rw [partsR_eq h]
 exact Ev.bind (match_l0 h hp hl p.length 0 (by omega)) (Ev.now _)
end Go.Proofs.Ytkpeihdlmjdejaa.Pure
