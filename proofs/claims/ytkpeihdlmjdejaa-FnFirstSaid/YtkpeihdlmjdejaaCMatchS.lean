/- Plain laws: the reference's table of what each node matches. -/
import Derived.Test.YtkpeihdlmjdejaaCP0
import Derived.Test.YtkpeihdlmjdejaaC0
import Derived.Test.YtkpeihdlmjdejaaC1
import Derived.Test.YtkpeihdlmjdejaaCMatchI
set_option linter.unusedVariables false
set_option linter.unusedSimpArgs false
namespace Go.Proofs.Ytkpeihdlmjdejaa.Pure
open Go.RowKit Go.Proofs.Ytkpeihdlmjdejaa.P Go.Proofs.YtkpeihdlmjdejaaW.PrintWords
def flatF (n : Nat) (F : Nat → Nat → Bool) : List Bool := (List.range (n * n)).map fun q => F (q / n) (q % n)
theorem flatF_length (n : Nat) (F : Nat → Nat → Bool) : (flatF n F).length = n * n := by simp [flatF]
theorem flat_lt {n a b : Nat} (ha : a < n) (hb : b < n) : a * n + b < n * n := by
 have : (a + 1) * n ≤ n * n := Nat.mul_le_mul_right _ ha
 rw [Nat.add_mul] at this
 omega
theorem flat_div {n a b : Nat} (hb : b < n) : (a * n + b) / n = a := by
 rw [Nat.add_comm, Nat.add_mul_div_right _ _ (by omega), Nat.div_eq_of_lt hb, Nat.zero_add]
theorem flat_mod {n a b : Nat} (hb : b < n) : (a * n + b) % n = b := by
 rw [Nat.add_comm, Nat.add_mul_mod_self_right, Nat.mod_eq_of_lt hb]
theorem flatF_at {n : Nat} {F : Nat → Nat → Bool} {a b : Nat} (ha : a < n) (hb : b < n) : rdOf false (flatF n F) ((a * n + b : Nat) : Int) = F a b := by
 unfold rdOf flatF
 rw [Int.toNat_natCast, List.getD_eq_getElem?_getD, List.getElem?_map, List.getElem?_range (flat_lt ha hb)]
 simp only [Option.map_some, Option.getD_some]
 rw [flat_div hb, flat_mod hb]
theorem flatF_congr {n : Nat} {F G : Nat → Nat → Bool} (h : ∀ a, a < n → ∀ b, b < n → F a b = G a b) : flatF n F = flatF n G := by
 unfold flatF
 refine List.map_congr_left (fun q hq => ?_)
 have hq := List.mem_range.1 hq
 have hn : 0 < n := by
  rcases Nat.eq_zero_or_pos n with h0 | h0
  ·subst h0; omega
  ·exact h0
 exact h _ ((Nat.div_lt_iff_lt_mul hn).2 hq) _ (Nat.mod_lt _ hn)
theorem flatF_set {n : Nat} {F : Nat → Nat → Bool} {a x : Nat} (ha : a < n) (hx : x < n) (u : Bool) : (flatF n F).set (a * n + x) u = flatF n (fun i j => if i = a ∧ j = x then u else F i j) := by
 have hn : 0 < n := by omega
 apply List.ext_getElem?
 intro q
 unfold flatF
 by_cases hq : q < n * n
 ·by_cases e : a * n + x = q
  ·subst e
   rw [List.getElem?_set_self (by simpa using hq), List.getElem?_map, List.getElem?_range hq]
   simp only [Option.map_some, flat_div hx, flat_mod hx]
   simp
  ·rw [List.getElem?_set_ne e, List.getElem?_map, List.getElem?_map, List.getElem?_range hq]
   have : ¬ (q / n = a ∧ q % n = x) := by
    rintro ⟨h1, h2⟩
    apply e
    rw [← h1, ← h2, Nat.mul_comm]
    exact Nat.div_add_mod q n
   simp only [Option.map_some, if_neg this]
 ·rw [List.getElem?_eq_none (by simp; omega), List.getElem?_eq_none (by simp; omega)]
theorem flatF_false (n : Nat) : List.replicate (n * n) false = flatF n (fun _ _ => false) := by
 unfold flatF
 rw [List.map_const', List.length_range]
theorem ixw {n a b : Nat} (hn : n ≤ 2000) (ha : a ≤ n) (hb : b ≤ n) : wrap64 (wrap64 ((a : Int) * (n : Int)) + (b : Int)) = ((a * n + b : Nat) : Int) := by
 have h : a * n ≤ 2000 * 2000 := Nat.mul_le_mul (by omega) hn
 have e : (a : Int) * (n : Int) = ((a * n : Nat) : Int) := by simp
 rw [e, w64 (x := ((a * n : Nat) : Int)) (by omega) (by omega), w64 (by omega) (by omega)]
 omega
def flatR (t : T) (l : List Int) : List Bool := flatF (l.length + 1) (cellB t l)
def sOlds (p : List RE) (l : List Int) (i : Nat) : List (List Bool) := (List.range i).map fun j => flatR (trAt p j) l
theorem sOlds_length (p : List RE) (l : List Int) (i : Nat) : (sOlds p l i).length = i := by simp [sOlds]
theorem sOlds_succ (p : List RE) (l : List Int) (i : Nat) : sOlds p l (i + 1) = sOlds p l i ++ [flatR (trAt p i) l] := by simp [sOlds, List.range_succ]
theorem sOlds_rd {p : List RE} {l : List Int} {i j : Nat} (h : j < i) : rd_L5 (sOlds p l i) (j : Int) = flatR (trAt p j) l := by
 unfold rd_L5 sOlds
 rw [Int.toNat_natCast, List.getD_eq_getElem?_getD, List.getElem?_map, List.getElem?_range h]
 rfl
theorem flatR_length (t : T) (l : List Int) : (flatR t l).length = (l.length + 1) * (l.length + 1) := flatF_length _ _
theorem flatR_at {t : T} {l : List Int} {a b : Nat} (ha : a ≤ l.length) (hb : b ≤ l.length) : rdOf false (flatR t l) ((a * (l.length + 1) + b : Nat) : Int) = cellB t l a b := flatF_at (by omega) (by omega)
def Walk (p : List RE) (e : En) : Prop := ∀ (need : Nat) (v : Int), need + e.r ≤ 4000000 → Ev (fun k => spec_l5First.l0 k p (need : Int) ((e.s : Int) - 1)) v → Ev (fun k => spec_l5First.l0 k p ((need : Int) + 1) (e.r : Int)) v
theorem walk_step {p : List RE} (hp : SmallR p) {i : Nat} (hi : i < p.length) {need : Nat} (hn : need + i ≤ 4000000) {v : Int} (h : Ev (fun k => spec_l5First.l0 k p ((need : Int) + arity (rdR p i).f0) ((i : Int) - 1)) v) : Ev (fun k => spec_l5First.l0 k p ((need : Int) + 1) (i : Int)) v := by
 have hlen := hp.len
 have hc := arity_cases (rdR p i).f0
 refine Ev.step (fun k => spec_l5First.l0.eq_2 ..) (Ev.pos (by omega) (Ev.pos (by omega) (Ev.pos (by omega) (Ev.bind (specArity _) ?_))))
 show Ev (fun k => spec_l5First.l0 k p (wrap64 ((need : Int) + 1 + wrap64 (arity (rdR p i).f0 - 1))) (wrap64 ((i : Int) - 1))) v
 rw [w64 (x := arity (rdR p i).f0 - 1) (by omega) (by omega), w64 (x := (need : Int) + 1 + (arity (rdR p i).f0 - 1)) (by omega) (by omega), w64 (x := (i : Int) - 1) (by omega) (by omega), show (need : Int) + 1 + (arity (rdR p i).f0 - 1) = (need : Int) + arity (rdR p i).f0 by omega]
 exact h
theorem walks {p : List RE} (h : Ok p) (hp : SmallR p) : ∀ i, i ≤ p.length → ∀ e ∈ stk p i, Walk p e
 | 0, _ => fun e he => by simp [stk] at he
 | i + 1, hi => by
  have ih := walks h hp i (by omega)
  have hc := chain h i (by omega)
  obtain ⟨h0, h1⟩ := h.ar (show i < p.length by omega)
  obtain ⟨a1, a2, a6, a7, a3⟩ := @arity_eq (rdR p i).f0
  show ∀ e ∈ push i (rdR p i) (stk p i), Walk p e
  have leaf : ∀ t, arity (rdR p i).f0 = 0 → ∀ e ∈ (⟨t, i, i⟩ : En) :: stk p i, Walk p e := fun t ha e he => by
   rcases List.mem_cons.1 he with rfl | he
   ·intro need v hn hv
    refine walk_step hp (show i < p.length by omega) hn ?_
    rw [ha, Int.add_zero]
    exact hv
   ·exact ih e he
  unfold push
  by_cases c1 : (rdR p i).f0 = 1
  ·rw [if_pos c1]; exact leaf _ (a1 c1)
  by_cases c2 : (rdR p i).f0 = 2
  ·rw [if_neg c1, if_pos c2]; exact leaf _ (a2 c2)
  rw [if_neg c1, if_neg c2]
  cases hst : stk p i with
  | nil => intro e he; cases he
  | cons b st1 =>
   rw [hst] at ih hc
   obtain ⟨i1, i2, i3⟩ := hc
   have hb := ih b List.mem_cons_self
   have one : ∀ t, arity (rdR p i).f0 = 1 → ∀ e ∈ (⟨t, b.s, i⟩ : En) :: st1, Walk p e := fun t ha e he => by
    rcases List.mem_cons.1 he with rfl | he
    ·intro need v hn hv
     refine walk_step hp (show i < p.length by omega) hn ?_
     rw [ha, show (i : Int) - 1 = (b.r : Int) by omega]
     exact hb need v (by show need + b.r ≤ _; have : need + i ≤ 4000000 := hn; omega) hv
    ·exact ih e (List.mem_cons_of_mem _ he)
   by_cases c6 : (rdR p i).f0 = 6
   ·simp only [if_pos c6]; exact one _ (a6 c6)
   by_cases c7 : (rdR p i).f0 = 7
   ·simp only [if_neg c6, if_pos c7]; exact one _ (a7 c7)
   simp only [if_neg c6, if_neg c7]
   cases st1 with
   | nil => intro e he; cases he
   | cons a st2 =>
    obtain ⟨j1, j2, j3⟩ := i3
    have ha := ih a (List.mem_cons_of_mem _ List.mem_cons_self)
    intro e he
    rcases List.mem_cons.1 he with rfl | he
    ·intro need v hn hv
     have hn' : need + i ≤ 4000000 := hn
     refine walk_step hp (show i < p.length by omega) hn ?_
     rw [(a3 c1 c2 c6 c7 h0).1, show (i : Int) - 1 = (b.r : Int) by omega, show (need : Int) + 2 = ((need + 1 : Nat) : Int) + 1 by omega]
     refine hb (need + 1) v (by omega) ?_
     rw [show ((need + 1 : Nat) : Int) = (need : Int) + 1 by omega, show (b.s : Int) - 1 = (a.r : Int) by omega]
     exact ha need v (by omega) hv
    ·exact ih e (List.mem_cons_of_mem _ (List.mem_cons_of_mem _ he))
theorem first_ev {p : List RE} (h : Ok p) (hp : SmallR p) {i : Nat} (hi : i < p.length) {a b : En} {st : List En} (hst : stk p i = b :: a :: st) (hb : b.r = i - 1) (ha : a.r + 1 = b.s) (hi1 : 1 ≤ i) : Ev (fun k => spec_l5First.f k p (i : Int)) (a.r : Int) := by
 have hlen := hp.len
 unfold spec_l5First.f
 rw [w64 (by omega) (by omega)]
 have hw := walks h hp i (by omega) b (by rw [hst]; exact List.mem_cons_self)
 have := hw 0 (a.r : Int) (by omega) (Ev.step (fun k => spec_l5First.l0.eq_2 ..) (Ev.neg (by omega) (Ev.some' (by omega))))
 rw [hb, show ((0 : Nat) : Int) + 1 = 1 from rfl, show ((i - 1 : Nat) : Int) = (i : Int) - 1 by omega] at this
 exact this
theorem cell_l0 {p : List RE} {l : List Int} (hl : l.length ≤ 1000) {i a x : Nat} (hi1 : 1 ≤ i) (hi2 : i ≤ 1048576) (hx : x ≤ l.length) {F : Nat → Nat → Bool} {Q : Nat → Bool} (hQ : Q x = true) (hF : ∀ m, a + 1 ≤ m → m < x → F m x = Q m) :
  ∀ (d m : Nat), m + d = x + 1 → a + 1 ≤ m → Ev (fun k => spec_l5Cell.l0 k (sOlds p l i) (flatF (l.length + 1) F) (i : Int) (a : Int) (x : Int) ((l.length + 1 : Nat) : Int) (m : Int)) (anyFrom (fun m => cellB (trAt p (i - 1)) l a m && Q m) m d)
 | 0, m, hd, hm => Ev.step (fun k => spec_l5Cell.l0.eq_2 ..) (Ev.neg (by omega) (Ev.now _))
 | d + 1, m, hd, hm => by
  have ih := cell_l0 (p := p) hl hi1 hi2 hx hQ hF d (m + 1) (by omega) (by omega)
  have ew : wrap64 ((i : Int) - 1) = ((i - 1 : Nat) : Int) := by rw [w64 (by omega) (by omega)]; omega
  refine Ev.step (fun k => spec_l5Cell.l0.eq_2 ..) ?_
  rw [ew, ixw (n := l.length + 1) (by omega) (show a ≤ l.length + 1 by omega) (show m ≤ l.length + 1 by omega), ixw (n := l.length + 1) (by omega) (show m ≤ l.length + 1 by omega) (show x ≤ l.length + 1 by omega), sOlds_rd (show i - 1 < i by omega), sOlds_length, flatR_length, flatR_at (by omega) (by omega), w64s (by omega)]
  have hlt := flat_lt (n := l.length + 1) (a := a) (b := m) (by omega) (by omega)
  refine Ev.pos (by omega) (Ev.pos (by omega) (Ev.pos (by omega) (Ev.pos (by omega) (Ev.pos (by exact_mod_cast hlt) ?_))))
  simp only [anyFrom]
  cases c1 : cellB (trAt p (i - 1)) l a m
  ·refine Ev.neg (by simp) ?_
   rw [Bool.false_and, Bool.false_or]
   exact ih
  ·refine Ev.pos rfl ?_
   by_cases c : m = x
   ·subst c
    exact Ev.pos rfl (Ev.some' (by simp [hQ]))
   ·have hlt2 := flat_lt (n := l.length + 1) (a := m) (b := x) (by omega) (by omega)
    refine Ev.neg (by omega) (Ev.pos (by omega) (Ev.pos (by rw [flatF_length]; exact_mod_cast hlt2) ?_))
    rw [flatF_at (by omega) (by omega), hF m hm (by omega)]
    cases c2 : Q m
    ·refine Ev.neg (by simp) ?_
     simpa using ih
    ·exact Ev.pos rfl (Ev.some' (by simp))
theorem cell_l1 {t1 t2 : T} {l : List Int} (hl : l.length ≤ 1000) {a x : Nat} (hx : x ≤ l.length) :
  ∀ (d m : Nat), m + d = x + 1 → a ≤ m → Ev (fun k => spec_l5Cell.l1 k (a : Int) (x : Int) ((l.length + 1 : Nat) : Int) (flatR t1 l) (flatR t2 l) (m : Int)) (anyFrom (fun m => cellB t1 l a m && cellB t2 l m x) m d)
 | 0, m, hd, hm => Ev.step (fun k => spec_l5Cell.l1.eq_2 ..) (Ev.neg (by omega) (Ev.now _))
 | d + 1, m, hd, hm => by
  have ih := cell_l1 (t1 := t1) (t2 := t2) hl (a := a) hx d (m + 1) (by omega) (by omega)
  refine Ev.step (fun k => spec_l5Cell.l1.eq_2 ..) ?_
  rw [ixw (n := l.length + 1) (by omega) (show a ≤ l.length + 1 by omega) (show m ≤ l.length + 1 by omega), ixw (n := l.length + 1) (by omega) (show m ≤ l.length + 1 by omega) (show x ≤ l.length + 1 by omega), flatR_length, flatR_length, flatR_at (by omega) (by omega), flatR_at (by omega) (by omega), w64s (by omega)]
  have hlt := flat_lt (n := l.length + 1) (a := a) (b := m) (by omega) (by omega)
  have hlt2 := flat_lt (n := l.length + 1) (a := m) (b := x) (by omega) (by omega)
  refine Ev.pos (by omega) (Ev.pos (by omega) (Ev.pos (by exact_mod_cast hlt) ?_))
  simp only [anyFrom]
  cases c1 : cellB t1 l a m
  ·refine Ev.neg (by simp) ?_
   rw [Bool.false_and, Bool.false_or]
   exact ih
  ·refine Ev.pos rfl (Ev.pos (by omega) (Ev.pos (by exact_mod_cast hlt2) ?_))
   cases c2 : cellB t2 l m x
   ·refine Ev.neg (by simp) ?_
    simpa using ih
   ·exact Ev.pos rfl (Ev.some' (by simp))
theorem cell_ev {p : List RE} (h : Ok p) (hp : SmallR p) {l : List Int} (hl : l.length ≤ 1000) {i a x : Nat} (hi : i < p.length) (hax : a ≤ x) (hx : x ≤ l.length) :
  Ev (fun k => spec_l5Cell.f k p (sOlds p l i) (flatF (l.length + 1) (filled (trAt p i) l a x)) l (i : Int) (rdR p i).f0 (rdR p i).f1 (a : Int) (x : Int)) (cellB (trAt p i) l a x) := by
 have hlen := hp.len
 obtain ⟨h0, h1⟩ := h.ar hi
 obtain ⟨a1, a2, a6, a7, a3⟩ := @arity_eq (rdR p i).f0
 rw [cellB_le hax]
 unfold spec_l5Cell.f
 have en : wrap64 ((l.length : Int) + 1) = ((l.length + 1 : Nat) : Int) := w64s (by omega)
 have ex := ixw (n := l.length + 1) (by omega) (show a ≤ l.length + 1 by omega) (show x ≤ l.length + 1 by omega)
 have hlt := flat_lt (n := l.length + 1) (a := a) (b := x) (by omega) (by omega)
 rw [en, ex]
 by_cases c1 : (rdR p i).f0 = 1
 ·rw [(tr_leaf i).1 c1, den_nil_seg l a x hx hax]
  refine Ev.pos c1 (Ev.some' ?_)
  rw [Bool.eq_iff_iff]
  simp
  omega
 refine Ev.neg c1 ?_
 by_cases c2 : (rdR p i).f0 = 2
 ·rw [(tr_leaf i).2 c2, den_set_seg _ l a x hx]
  refine Ev.pos c2 ?_
  rw [w64s (by omega)]
  by_cases c : x = a + 1
  ·rw [decide_eq_true c, Bool.true_and]
   have hs := hp.sets (rdR p i) (by rw [rdR_get hi]; exact List.getElem_mem _)
   have hg : goodSetB (rdR p i).f1 = true := by
    have := (h.node i hi).1
    unfold nodeB setOk at this
    simp only [Bool.and_eq_true] at this
    exact this.2.1
   exact Ev.pos (by omega) (Ev.pos (by omega) (Ev.pos (by omega) (Ev.bind (specInSet _ _ (by omega) (goodSet_len hg).2) (Ev.now _))))
  ·rw [decide_eq_false c, Bool.false_and]
   exact Ev.neg (by omega) (Ev.now _)
 refine Ev.neg c2 ?_
 by_cases c7 : (rdR p i).f0 = 7
 ·obtain ⟨j1, hk, _, ht⟩ := tr_one h hi (a7 c7)
  have ew : wrap64 ((i : Int) - 1) = ((i - 1 : Nat) : Int) := by rw [w64 (by omega) (by omega)]; omega
  rw [ht c7, ew, sOlds_length, sOlds_rd (show i - 1 < i by omega), flatR_length, flatR_at (by omega) (by omega), cellB_le hax]
  exact Ev.pos c7 (Ev.pos (by omega) (Ev.pos (by omega) (Ev.pos (by omega) (Ev.pos (by exact_mod_cast hlt) (Ev.now _)))))
 refine Ev.neg c7 ?_
 by_cases c6 : (rdR p i).f0 = 6
 ·obtain ⟨j1, hk, ht, _⟩ := tr_one h hi (a6 c6)
  have ht := ht c6
  refine Ev.pos c6 ?_
  by_cases c : a = x
  ·subst c
   rw [ht, den_star_nil]
   exact Ev.pos rfl (Ev.now _)
  ·refine Ev.neg (by omega) ?_
   rw [w64s (by omega)]
   refine Ev.eq' (cell_l0 (p := p) hl j1 (by omega) hx (F := filled (trAt p i) l a x) (Q := fun m => den (trAt p i) (seg l m x)) (by rw [ht]; exact den_star_nil _ _ _) (fun m hm hm2 => ?_) (x - a) (a + 1) (by omega) (Nat.le_refl _)) ?_
   ·unfold filled
    rw [decide_eq_true (by omega), Bool.true_and, cellB_le (by omega)]
   ·rw [ht, den_star_seg _ l a x hx (by omega)]
    refine anyFrom_congr _ _ (fun m hm hm2 => ?_)
    rw [cellB_le (by omega)]
 have ha2 := (a3 c1 c2 c6 c7 h0).1
 obtain ⟨ea, eb, st, hst, e1, e2, e3, e4, hk, ht⟩ := tr_two h hi ha2
 have ew : wrap64 ((i : Int) - 1) = ((i - 1 : Nat) : Int) := by rw [w64 (by omega) (by omega)]; omega
 refine Ev.neg c6 (Ev.bind (first_ev h hp hi hst e1 e2 e4) ?_)
 rw [ew, sOlds_length, sOlds_rd (show ea.r < i by omega), sOlds_rd (show i - 1 < i by omega), flatR_length, flatR_length, flatR_at (by omega) (by omega), flatR_at (by omega) (by omega), cellB_le hax, cellB_le hax, ht]
 refine Ev.pos (by omega) (Ev.pos (by omega) (Ev.pos (by omega) (Ev.pos (by omega) ?_)))
 unfold two
 by_cases c4 : (rdR p i).f0 = 4
 ·rw [if_pos c4]
  refine Ev.pos c4 (Ev.pos (by omega) (Ev.pos (by exact_mod_cast hlt) ?_))
  simp only [den]
  cases den (trAt p ea.r) (seg l a x)
  ·refine Ev.neg (by simp) (Ev.pos (by exact_mod_cast hlt) (Ev.some' (by simp)))
  ·exact Ev.pos rfl (Ev.now _)
 rw [if_neg c4]
 refine Ev.neg c4 ?_
 by_cases c5 : (rdR p i).f0 = 5
 ·rw [if_pos c5]
  refine Ev.pos c5 (Ev.pos (by omega) (Ev.pos (by exact_mod_cast hlt) ?_))
  simp only [den]
  cases den (trAt p ea.r) (seg l a x)
  ·exact Ev.neg (by simp) (Ev.now _)
  ·exact Ev.pos rfl (Ev.pos (by exact_mod_cast hlt) (Ev.some' (by simp)))
 rw [if_neg c5]
 refine Ev.neg c5 ?_
 refine Ev.eq' (cell_l1 hl hx (x + 1 - a) a (by omega) (Nat.le_refl _)) ?_
 rw [den_cat_seg _ _ l a x hx hax]
 refine anyFrom_congr _ _ (fun m hm hm2 => ?_)
 rw [cellB_le (by omega), cellB_le (by omega)]
theorem flat_start (t : T) (l : List Int) (n a : Nat) : flatF n (filled t l a a) = flatF n (below t l (a + 1)) := by
 refine flatF_congr (fun i _ j _ => ?_)
 unfold filled below
 by_cases h : i = a ∧ j < a
 ·rw [cellB_gt (by omega), Bool.and_false, Bool.and_false]
 ·rw [show decide (a < i ∨ (i = a ∧ j < a)) = decide (a + 1 ≤ i) from decide_eq_decide.2 (by omega)]
theorem flat_end (t : T) (l : List Int) (n a : Nat) : flatF n (filled t l a n) = flatF n (below t l a) := by
 refine flatF_congr (fun i _ j hj => ?_)
 unfold filled below
 rw [show decide (a < i ∨ (i = a ∧ j < n)) = decide (a ≤ i) from decide_eq_decide.2 (by omega)]
theorem flat_put (t : T) (l : List Int) (n a x : Nat) (ha : a < n) (hx : x < n) : (flatF n (filled t l a x)).set (a * n + x) (cellB t l a x) = flatF n (filled t l a (x + 1)) := by
 rw [flatF_set ha hx]
 refine flatF_congr (fun i _ j _ => ?_)
 unfold filled
 by_cases h : i = a ∧ j = x
 ·rw [if_pos h, h.1, h.2, decide_eq_true (by omega), Bool.true_and]
 ·rw [if_neg h, show decide (a < i ∨ (i = a ∧ j < x)) = decide (a < i ∨ (i = a ∧ j < x + 1)) from decide_eq_decide.2 (by omega)]
theorem table_l2 {p : List RE} (h : Ok p) (hp : SmallR p) {l : List Int} (hl : l.length ≤ 1000) {i a : Nat} (hi : i < p.length) (ha : a ≤ l.length) {v : List (List Bool)} (hv : Ev (fun k => spec_l5Table.l1 k p l ((l.length + 1 : Nat) : Int) (sOlds p l i) (i : Int) (flatF (l.length + 1) (below (trAt p i) l a)) ((a : Int) - 1) p (p.length : Int) (i : Int) (rdR p i).f0 (rdR p i).f1) v) :
  ∀ (d x : Nat), x + d = l.length + 1 → a ≤ x → Ev (fun k => spec_l5Table.l2 k p l ((l.length + 1 : Nat) : Int) (sOlds p l i) (i : Int) (flatF (l.length + 1) (filled (trAt p i) l a x)) (a : Int) (x : Int) p (p.length : Int) (i : Int) (rdR p i).f0 (rdR p i).f1) v
 | 0, x, hd, hx => by
  obtain rfl : x = l.length + 1 := by omega
  refine Ev.step (fun k => spec_l5Table.l2.eq_2 ..) (Ev.neg (by omega) ?_)
  rw [flat_end, w64 (by omega) (by omega)]
  exact hv
 | d + 1, x, hd, hx => by
  have ih := table_l2 h hp hl hi ha hv d (x + 1) (by omega) (by omega)
  have hlt := flat_lt (n := l.length + 1) (a := a) (b := x) (by omega) (by omega)
  refine Ev.step (fun k => spec_l5Table.l2.eq_2 ..) (Ev.pos (by omega) (Ev.bind (cell_ev h hp hl hi hx (by omega)) ?_))
  rw [ixw (n := l.length + 1) (by omega) (show a ≤ l.length + 1 by omega) (show x ≤ l.length + 1 by omega), w64s (by omega), Int.toNat_natCast, flat_put _ _ _ _ _ (by omega) (by omega), flatF_length]
  exact Ev.pos (by omega) (Ev.pos (by exact_mod_cast hlt) ih)
theorem table_l1 {p : List RE} (h : Ok p) (hp : SmallR p) {l : List Int} (hl : l.length ≤ 1000) {i : Nat} (hi : i < p.length) {v : List (List Bool)} (hv : Ev (fun k => spec_l5Table.l0 k p l ((l.length + 1 : Nat) : Int) (sOlds p l (i + 1)) p (p.length : Int) ((i + 1 : Nat) : Int)) v) :
  ∀ c : Nat, c ≤ l.length + 1 → Ev (fun k => spec_l5Table.l1 k p l ((l.length + 1 : Nat) : Int) (sOlds p l i) (i : Int) (flatF (l.length + 1) (below (trAt p i) l c)) ((c : Int) - 1) p (p.length : Int) (i : Int) (rdR p i).f0 (rdR p i).f1) v
 | 0, _ => by
  have hlen := hp.len
  refine Ev.step (fun k => spec_l5Table.l1.eq_2 ..) (Ev.neg (by omega) (Ev.pos (by rw [sOlds_length]; omega) ?_))
  have e : flatF (l.length + 1) (below (trAt p i) l 0) = flatR (trAt p i) l := by
   refine flatF_congr (fun i _ j _ => ?_)
   unfold below
   rw [decide_eq_true (by omega), Bool.true_and]
  rw [e, ← sOlds_succ, w64s (by omega)]
  exact hv
 | c + 1, hc => by
  have ih := table_l1 h hp hl hi hv c (by omega)
  refine Ev.step (fun k => spec_l5Table.l1.eq_2 ..) (Ev.pos (by omega) ?_)
  have := table_l2 h hp hl hi (show c ≤ l.length by omega) ih (l.length + 1 - c) c (by omega) (Nat.le_refl _)
  rw [flat_start] at this
  rw [show (((c + 1 : Nat) : Int) - 1) = (c : Int) by omega]
  exact this
theorem table_l0 {p : List RE} (h : Ok p) (hp : SmallR p) {l : List Int} (hl : l.length ≤ 1000) : ∀ (d i : Nat), i + d = p.length → Ev (fun k => spec_l5Table.l0 k p l ((l.length + 1 : Nat) : Int) (sOlds p l i) p (p.length : Int) (i : Int)) (sOlds p l p.length)
 | 0, i, hd => by
  obtain rfl : i = p.length := by omega
  exact Ev.step (fun k => spec_l5Table.l0.eq_2 ..) (Ev.neg (by omega) (Ev.now _))
 | d + 1, i, hd => by
  have ih := table_l0 h hp hl d (i + 1) (by omega)
  have hm : (l.length + 1) * (l.length + 1) ≤ 2000 * 2000 := Nat.mul_le_mul (by omega) (by omega)
  have em : wrap64 (((l.length + 1 : Nat) : Int) * ((l.length + 1 : Nat) : Int)) = (((l.length + 1) * (l.length + 1) : Nat) : Int) := by
   have e : ((l.length + 1 : Nat) : Int) * ((l.length + 1 : Nat) : Int) = (((l.length + 1) * (l.length + 1) : Nat) : Int) := by simp
   rw [e, w64 (by omega) (by omega)]
  refine Ev.step (fun k => spec_l5Table.l0.eq_2 ..) ?_
  rw [em, Int.toNat_natCast, flatF_false]
  refine Ev.pos (by omega) (Ev.pos (by omega) (Ev.pos (by omega) (Ev.pos (by omega) (Ev.pos (by omega) ?_))))
  have := table_l1 h hp hl (show i < p.length by omega) ih (l.length + 1) (Nat.le_refl _)
  rw [show flatF (l.length + 1) (below (trAt p i) l (l.length + 1)) = flatF (l.length + 1) (fun _ _ => false) from flatF_congr (fun i hi j _ => by unfold below; rw [decide_eq_false (by omega), Bool.false_and])] at this
  rw [w64 (by omega) (by omega)]
  exact this
theorem specTable {p : List RE} (h : Ok p) (hp : SmallR p) {l : List Int} (hl : l.length ≤ 1000) : Ev (fun k => spec_l5Table.f k p l) (sOlds p l p.length) := by
 unfold spec_l5Table.f
 rw [w64s (by omega)]
 exact table_l0 h hp hl p.length 0 (by omega)
end Go.Proofs.Ytkpeihdlmjdejaa.Pure
