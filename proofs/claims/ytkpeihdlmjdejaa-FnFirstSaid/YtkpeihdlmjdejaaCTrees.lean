/- Plain laws of patterns: their trees, what a tree matches, and the tree of each node. -/
import Derived.Test.YtkpeihdlmjdejaaCP0
import Derived.Test.YtkpeihdlmjdejaaC3
import Derived.Test.YtkpeihdlmjdejaaCRes
set_option linter.unusedVariables false
set_option linter.unusedSimpArgs false
namespace Go.Proofs.Ytkpeihdlmjdejaa.Pure
open Go.RowKit Go.Proofs.Ytkpeihdlmjdejaa.P Go.Proofs.YtkpeihdlmjdejaaW.PrintWords
inductive T where
 | nil : T
 | set (s : List Int) : T
 | cat (a b : T) : T
 | or (a b : T) : T
 | and (a b : T) : T
 | star (a : T) : T
 | not (a : T) : T
def anyFrom (p : Nat → Bool) : Nat → Nat → Bool
 | _, 0 => false
 | i, d + 1 => p i || anyFrom p (i + 1) d
theorem anyFrom_iff (p : Nat → Bool) : ∀ (d i : Nat), anyFrom p i d = true ↔ ∃ j, i ≤ j ∧ j < i + d ∧ p j = true
 | 0, i => by
  simp only [anyFrom]
  constructor
  ·intro h; cases h
  ·rintro ⟨j, h1, h2, _⟩; omega
 | d + 1, i => by
  simp only [anyFrom, Bool.or_eq_true, anyFrom_iff p d (i + 1)]
  constructor
  ·rintro (h | ⟨j, h1, h2, h3⟩)
   ·exact ⟨i, by omega, by omega, h⟩
   ·exact ⟨j, by omega, by omega, h3⟩
  ·rintro ⟨j, h1, h2, h3⟩
   by_cases e : j = i
   ·exact .inl (e ▸ h3)
   ·exact .inr ⟨j, by omega, by omega, h3⟩
theorem anyFrom_congr {p q : Nat → Bool} : ∀ (d i : Nat), (∀ j, i ≤ j → j < i + d → p j = q j) → anyFrom p i d = anyFrom q i d
 | 0, _, _ => rfl
 | d + 1, i, h => by
  simp only [anyFrom]
  rw [h i (by omega) (by omega), anyFrom_congr d (i + 1) (fun j h1 h2 => h j (by omega) (by omega))]
theorem anyFrom_shift (p : Nat → Bool) (c : Nat) : ∀ (d i : Nat), anyFrom p (i + c) d = anyFrom (fun j => p (j + c)) i d
 | 0, _ => rfl
 | d + 1, i => by
  simp only [anyFrom]
  rw [show i + c + 1 = i + 1 + c by omega, anyFrom_shift p c d (i + 1)]
def catB (f g : List Int → Bool) (w : List Int) : Bool := anyFrom (fun i => f (w.take i) && g (w.drop i)) 0 (w.length + 1)
def starN (f : List Int → Bool) : Nat → List Int → Bool
 | 0, w => w.isEmpty
 | n + 1, w => w.isEmpty || anyFrom (fun i => f (w.take i) && starN f n (w.drop i)) 1 w.length
def den : T → List Int → Bool
 | .nil, w => w.isEmpty
 | .set s, w => match w with
  | [r] => inSetB s r
  | _ => false
 | .cat a b, w => catB (den a) (den b) w
 | .or a b, w => den a w || den b w
 | .and a b, w => den a w && den b w
 | .star a, w => starN (den a) w.length w
 | .not a, w => !den a w
theorem starN_enough (f : List Int → Bool) : ∀ (n m : Nat) (w : List Int), w.length ≤ n → w.length ≤ m → starN f n w = starN f m w
 | 0, m, w, h1, _ => by
  obtain rfl : w = [] := List.eq_nil_of_length_eq_zero (by omega)
  cases m <;> simp [starN]
 | n + 1, 0, w, _, h2 => by
  obtain rfl : w = [] := List.eq_nil_of_length_eq_zero (by omega)
  simp [starN]
 | n + 1, m + 1, w, h1, h2 => by
  simp only [starN]
  congr 1
  refine anyFrom_congr _ _ (fun i hi hi2 => ?_)
  rw [starN_enough f n m (w.drop i) (by rw [List.length_drop]; omega) (by rw [List.length_drop]; omega)]
theorem den_star (a : T) (w : List Int) : den (.star a) w = (w.isEmpty || anyFrom (fun i => den a (w.take i) && den (.star a) (w.drop i)) 1 w.length) := by
 simp only [den]
 cases w with
 | nil => simp [starN]
 | cons x w =>
  simp only [List.length_cons, starN]
  congr 1
  refine anyFrom_congr _ _ (fun i hi hi2 => ?_)
  rw [starN_enough (den a) w.length ((x :: w).drop i).length _ (by rw [List.length_drop]; simp; omega) (Nat.le_refl _)]
def seg (l : List Int) (a b : Nat) : List Int := (l.take b).drop a
theorem seg_length (l : List Int) (a b : Nat) (h : b ≤ l.length) : (seg l a b).length = b - a := by
 unfold seg
 rw [List.length_drop, List.length_take]
 omega
theorem seg_take (l : List Int) (a b i : Nat) (h : a + i ≤ b) : (seg l a b).take i = seg l a (a + i) := by
 unfold seg
 rw [List.take_drop, List.take_take, Nat.min_eq_left h]
theorem seg_drop (l : List Int) (a b i : Nat) : (seg l a b).drop i = seg l (a + i) b := by
 unfold seg
 rw [List.drop_drop]
theorem seg_nil (l : List Int) (a b : Nat) (h : b ≤ a) : seg l a b = [] := by
 unfold seg
 rw [List.drop_eq_nil_of_le (by rw [List.length_take]; omega)]
theorem seg_one (l : List Int) (a : Nat) (h : a < l.length) : seg l a (a + 1) = [l[a]] := by
 unfold seg
 rw [List.take_succ_eq_append_getElem h, List.drop_append_of_le_length (by rw [List.length_take]; omega), List.drop_eq_nil_of_le (by rw [List.length_take]; omega)]
 rfl
theorem seg_all (l : List Int) : seg l 0 l.length = l := by
 unfold seg
 rw [List.take_length, List.drop_zero]
theorem den_cat_seg (a b : T) (l : List Int) (i j : Nat) (hj : j ≤ l.length) (hij : i ≤ j) : den (.cat a b) (seg l i j) = anyFrom (fun m => den a (seg l i m) && den b (seg l m j)) i (j + 1 - i) := by
 simp only [den, catB]
 rw [seg_length l i j hj]
 have := anyFrom_shift (fun m => den a (seg l i m) && den b (seg l m j)) i (j + 1 - i) 0
 rw [Nat.zero_add] at this
 rw [this, show j - i + 1 = j + 1 - i by omega]
 refine anyFrom_congr _ _ (fun m h1 h2 => ?_)
 rw [seg_take l i j m (by omega), seg_drop, Nat.add_comm i m]
theorem den_star_seg (a : T) (l : List Int) (i j : Nat) (hj : j ≤ l.length) (hij : i < j) : den (.star a) (seg l i j) = anyFrom (fun m => den a (seg l i m) && den (.star a) (seg l m j)) (i + 1) (j - i) := by
 rw [den_star, seg_length l i j hj]
 have hne : (seg l i j).isEmpty = false := by
  have := seg_length l i j hj
  cases h : seg l i j with
  | nil => rw [h] at this; simp at this; omega
  | cons x y => rfl
 rw [hne, Bool.false_or]
 have := anyFrom_shift (fun m => den a (seg l i m) && den (.star a) (seg l m j)) i (j - i) 1
 rw [show i + 1 = 1 + i by omega, this]
 refine anyFrom_congr _ _ (fun m h1 h2 => ?_)
 rw [seg_take l i j m (by omega), seg_drop, Nat.add_comm i m]
theorem den_star_nil (a : T) (l : List Int) (i : Nat) : den (.star a) (seg l i i) = true := by
 rw [seg_nil l i i (Nat.le_refl _), den_star]
 rfl
theorem den_set_seg (s : List Int) (l : List Int) (i j : Nat) (hj : j ≤ l.length) : den (.set s) (seg l i j) = (decide (j = i + 1) && inSetB s (rd l i)) := by
 by_cases h : j = i + 1
 ·subst h
  rw [seg_one l i (by omega), rd_eq l (show i < l.length by omega)]
  simp [den]
 ·rw [decide_eq_false h, Bool.false_and]
  have hl := seg_length l i j hj
  simp only [den]
  split
  ·rename_i r hr
   rw [hr] at hl
   simp at hl
   omega
  ·rfl
theorem den_nil_seg (l : List Int) (i j : Nat) (hj : j ≤ l.length) (hij : i ≤ j) : den .nil (seg l i j) = decide (i = j) := by
 have hl := seg_length l i j hj
 simp only [den]
 cases h : seg l i j with
 | nil => rw [h] at hl; simp at hl; rw [decide_eq_true (by omega)]; rfl
 | cons x y => rw [h] at hl; simp at hl; rw [decide_eq_false (by omega)]; rfl
structure En where
 t : T
 s : Nat
 r : Nat
def two (op : Int) (a b : T) : T := if op = 4 then .or a b else if op = 5 then .and a b else .cat a b
def push (i : Nat) (x : RE) (st : List En) : List En :=
 if x.f0 = 1 then ⟨.nil, i, i⟩ :: st else if x.f0 = 2 then ⟨.set x.f1, i, i⟩ :: st else
  match st with
  | [] => []
  | b :: st1 => if x.f0 = 6 then ⟨.star b.t, b.s, i⟩ :: st1 else if x.f0 = 7 then ⟨.not b.t, b.s, i⟩ :: st1 else
   match st1 with
   | [] => []
   | a :: st2 => ⟨two x.f0 a.t b.t, a.s, i⟩ :: st2
def rdR (p : List RE) (i : Nat) : RE := rd_T89 p (i : Int)
def stk (p : List RE) : Nat → List En
 | 0 => []
 | i + 1 => push i (rdR p i) (stk p i)
def trAt (p : List RE) (j : Nat) : T := match stk p (j + 1) with
 | [] => .nil
 | e :: _ => e.t
theorem arity_eq {op : Int} : (op = 1 → arity op = 0) ∧ (op = 2 → arity op = 0) ∧ (op = 6 → arity op = 1) ∧ (op = 7 → arity op = 1) ∧ (op ≠ 1 → op ≠ 2 → op ≠ 6 → op ≠ 7 → 0 ≤ arity op → arity op = 2 ∧ (op = 3 ∨ op = 4 ∨ op = 5)) := by
 refine ⟨?_, ?_, ?_, ?_, ?_⟩
 ·rintro rfl; rfl
 ·rintro rfl; rfl
 ·rintro rfl; rfl
 ·rintro rfl; rfl
 ·intro h1 h2 h6 h7
  unfold arity
  rw [if_neg h1, if_neg h2, if_neg h6, if_neg h7]
  repeat' split
  all_goals omega
theorem push_shape (i : Nat) (x : RE) (st : List En) (h0 : 0 ≤ arity x.f0) (h1 : arity x.f0 ≤ st.length) : ∃ e, push i x st = e :: st.drop (arity x.f0).toNat ∧ e.r = i := by
 obtain ⟨a1, a2, a6, a7, a3⟩ := @arity_eq x.f0
 unfold push
 by_cases c1 : x.f0 = 1
 ·rw [if_pos c1, a1 c1]; exact ⟨_, rfl, rfl⟩
 by_cases c2 : x.f0 = 2
 ·rw [if_neg c1, if_pos c2, a2 c2]; exact ⟨_, rfl, rfl⟩
 rw [if_neg c1, if_neg c2]
 cases st with
 | nil =>
  have : arity x.f0 = 0 := by simp at h1; omega
  by_cases c6 : x.f0 = 6
  ·rw [a6 c6] at this; omega
  by_cases c7 : x.f0 = 7
  ·rw [a7 c7] at this; omega
  have := (a3 c1 c2 c6 c7 h0).1
  omega
 | cons b st1 =>
  by_cases c6 : x.f0 = 6
  ·simp only [if_pos c6]; rw [a6 c6]; exact ⟨_, rfl, rfl⟩
  by_cases c7 : x.f0 = 7
  ·simp only [if_neg c6, if_pos c7]; rw [a7 c7]; exact ⟨_, rfl, rfl⟩
  have h2 := (a3 c1 c2 c6 c7 h0).1
  simp only [if_neg c6, if_neg c7]
  cases st1 with
  | nil => simp at h1; omega
  | cons a st2 => rw [h2]; exact ⟨_, rfl, rfl⟩
structure Ok (p : List RE) : Prop where
 node : ∀ i, i < p.length → nodeB (rdR p i) = true ∧ arity (rdR p i).f0 ≤ (stk p i).length
 one : (stk p p.length).length = 1
theorem Ok.ar {p : List RE} (h : Ok p) {i : Nat} (hi : i < p.length) : 0 ≤ arity (rdR p i).f0 ∧ arity (rdR p i).f0 ≤ (stk p i).length := by
 have := h.node i hi
 unfold nodeB at this
 simp at this
 exact ⟨this.1.1, this.2⟩
theorem rdR_get {p : List RE} {i : Nat} (hi : i < p.length) : rdR p i = p[i] := rdR_eq p hi
theorem ok_from (p : List RE) : ∀ (d i : Nat), i + d = p.length → pileB (p.drop i) (stk p i).length = true → (∀ j, i ≤ j → j < p.length → nodeB (rdR p j) = true ∧ arity (rdR p j).f0 ≤ (stk p j).length) ∧ (stk p p.length).length = 1
 | 0, i, hd, h => by
  have : i = p.length := by omega
  subst this
  rw [List.drop_length] at h
  simp only [pileB, beq_iff_eq] at h
  exact ⟨fun j h1 h2 => by omega, by omega⟩
 | d + 1, i, hd, h => by
  rw [drop_cons p (show i < p.length by omega), ← rdR_get] at h
  simp only [pileB, Bool.and_eq_true, decide_eq_true_eq] at h
  obtain ⟨h1, h2, h3⟩ := h
  have h0 : 0 ≤ arity (rdR p i).f0 := by unfold nodeB at h1; simp at h1; exact h1.1
  obtain ⟨e, he, _⟩ := push_shape i (rdR p i) (stk p i) h0 h2
  have hl : ((stk p (i + 1)).length : Int) = (stk p i).length + 1 - arity (rdR p i).f0 := by
   show ((push i (rdR p i) (stk p i)).length : Int) = _
   rw [he, List.length_cons, List.length_drop]
   omega
  rw [← hl] at h3
  obtain ⟨g1, g2⟩ := ok_from p d (i + 1) (by omega) h3
  refine ⟨fun j hj1 hj2 => ?_, g2⟩
  by_cases e : j = i
  ·subst e; exact ⟨h1, h2⟩
  ·exact g1 j (by omega) hj2
theorem Ok.of {p : List RE} (h : pileB p 0 = true) : Ok p := by
 obtain ⟨h1, h2⟩ := ok_from p p.length 0 (by omega) (by simpa [stk] using h)
 exact ⟨fun i hi => h1 i (by omega) hi, h2⟩
def Chain : List En → Nat → Prop
 | [], i => i = 0
 | e :: st, i => e.r + 1 = i ∧ e.s ≤ e.r ∧ Chain st e.s
theorem chain {p : List RE} (h : Ok p) : ∀ i, i ≤ p.length → Chain (stk p i) i
 | 0, _ => rfl
 | i + 1, hi => by
  have ih := chain h i (by omega)
  obtain ⟨h0, h1⟩ := h.ar (show i < p.length by omega)
  obtain ⟨a1, a2, a6, a7, a3⟩ := @arity_eq (rdR p i).f0
  show Chain (push i (rdR p i) (stk p i)) (i + 1)
  unfold push
  by_cases c1 : (rdR p i).f0 = 1
  ·rw [if_pos c1]; exact ⟨rfl, Nat.le_refl _, ih⟩
  by_cases c2 : (rdR p i).f0 = 2
  ·rw [if_neg c1, if_pos c2]; exact ⟨rfl, Nat.le_refl _, ih⟩
  rw [if_neg c1, if_neg c2]
  cases hst : stk p i with
  | nil =>
   rw [hst] at h1
   by_cases c6 : (rdR p i).f0 = 6
   ·rw [a6 c6] at h1; simp at h1
   by_cases c7 : (rdR p i).f0 = 7
   ·rw [a7 c7] at h1; simp at h1
   rw [(a3 c1 c2 c6 c7 h0).1] at h1; simp at h1
  | cons b st1 =>
   rw [hst] at ih h1
   obtain ⟨i1, i2, i3⟩ := ih
   by_cases c6 : (rdR p i).f0 = 6
   ·simp only [if_pos c6]; exact ⟨rfl, by show b.s ≤ i; omega, i3⟩
   by_cases c7 : (rdR p i).f0 = 7
   ·simp only [if_neg c6, if_pos c7]; exact ⟨rfl, by show b.s ≤ i; omega, i3⟩
   simp only [if_neg c6, if_neg c7]
   cases st1 with
   | nil => rw [(a3 c1 c2 c6 c7 h0).1] at h1; simp at h1
   | cons a st2 =>
    obtain ⟨j1, j2, j3⟩ := i3
    exact ⟨rfl, by show a.s ≤ i; omega, j3⟩
theorem tr_mem {p : List RE} (h : Ok p) : ∀ i, i ≤ p.length → ∀ e ∈ stk p i, e.r < i ∧ trAt p e.r = e.t
 | 0, _ => fun e he => by simp [stk] at he
 | i + 1, hi => fun e he => by
  obtain ⟨h0, h1⟩ := h.ar (show i < p.length by omega)
  obtain ⟨e', he', hr⟩ := push_shape i (rdR p i) (stk p i) h0 h1
  have hs : stk p (i + 1) = e' :: (stk p i).drop (arity (rdR p i).f0).toNat := he'
  rw [hs] at he
  rcases List.mem_cons.1 he with rfl | he
  ·refine ⟨by omega, ?_⟩
   rw [hr]
   unfold trAt
   rw [hs]
  ·obtain ⟨g1, g2⟩ := tr_mem h i (by omega) e (List.mem_of_mem_drop he)
   exact ⟨by omega, g2⟩
def kidsAt (p : List RE) (j : Nat) : List Int := (((stk p j).take (arity (rdR p j).f0).toNat).reverse.map fun e => (e.r : Int))
theorem parts_from {p : List RE} (h : Ok p) : ∀ (d i : Nat) (out : List (List Int)), i + d = p.length → partsL (p.drop i) i ((stk p i).reverse.map fun e => (e.r : Int)) out = (out ++ (List.range' i d).map (kidsAt p), true)
 | 0, i, out, hd => by
  have : i = p.length := by omega
  subst this
  rw [List.drop_length]
  have h1 := h.one
  simp [partsL, h1]
 | d + 1, i, out, hd => by
  obtain ⟨h0, h1⟩ := h.ar (show i < p.length by omega)
  obtain ⟨e, he, hr⟩ := push_shape i (rdR p i) (stk p i) h0 h1
  have hs : stk p (i + 1) = e :: (stk p i).drop (arity (rdR p i).f0).toNat := he
  rw [drop_cons p (show i < p.length by omega), ← rdR_get]
  simp only [partsL]
  rw [if_neg (by rw [List.length_map, List.length_reverse]; omega), List.length_map, List.length_reverse]
  have e1 : ((stk p i).reverse.map fun e => (e.r : Int)).drop ((stk p i).length - (arity (rdR p i).f0).toNat) = kidsAt p i := by
   unfold kidsAt
   rw [← List.map_drop, List.drop_reverse]
   congr 3
   omega
  have e2 : ((stk p i).reverse.map fun e => (e.r : Int)).take ((stk p i).length - (arity (rdR p i).f0).toNat) ++ [(i : Int)] = ((stk p (i + 1)).reverse.map fun e => (e.r : Int)) := by
   rw [hs, List.reverse_cons, List.map_append, ← List.map_take, List.take_reverse]
   congr 1
   ·congr 3
    omega
   ·simp [hr]
  rw [e1, e2]
  have ih := parts_from h d (i + 1) (out ++ [kidsAt p i]) (by omega)
  rw [show ((i : Int) + 1) = ((i + 1 : Nat) : Int) by omega, ih, List.range'_succ]
  simp
theorem partsR_eq {p : List RE} (h : Ok p) : partsR p = ((List.range p.length).map (kidsAt p), true) := by
 have := parts_from h p.length 0 [] (by omega)
 unfold partsR
 simpa [stk, List.range_eq_range'] using this
theorem tr_leaf {p : List RE} (j : Nat) : ((rdR p j).f0 = 1 → trAt p j = .nil) ∧ ((rdR p j).f0 = 2 → trAt p j = .set (rdR p j).f1) := by
 constructor
 ·intro h
  unfold trAt
  show (match push j (rdR p j) (stk p j) with | [] => T.nil | e :: _ => e.t) = _
  unfold push
  rw [if_pos h]
 ·intro h
  unfold trAt
  show (match push j (rdR p j) (stk p j) with | [] => T.nil | e :: _ => e.t) = _
  unfold push
  rw [if_neg (by omega), if_pos h]
theorem tr_one {p : List RE} (h : Ok p) {j : Nat} (hj : j < p.length) (ha : arity (rdR p j).f0 = 1) :
  1 ≤ j ∧ kidsAt p j = [((j - 1 : Nat) : Int)] ∧ ((rdR p j).f0 = 6 → trAt p j = .star (trAt p (j - 1))) ∧ ((rdR p j).f0 = 7 → trAt p j = .not (trAt p (j - 1))) := by
 obtain ⟨h0, h1⟩ := h.ar hj
 have hc := chain h j (by omega)
 have hm := tr_mem h j (by omega)
 cases hst : stk p j with
 | nil => rw [hst, ha] at h1; simp at h1
 | cons b st1 =>
  rw [hst] at hc
  obtain ⟨c1, c2, c3⟩ := hc
  have hb := (hm b (by rw [hst]; exact List.mem_cons_self)).2
  rw [show b.r = j - 1 by omega] at hb
  refine ⟨by omega, ?_, fun ho => ?_, fun ho => ?_⟩
  ·unfold kidsAt
   rw [ha, hst]
   simp
   omega
  ·unfold trAt
   show (match push j (rdR p j) (stk p j) with | [] => T.nil | e :: _ => e.t) = _
   unfold push
   rw [if_neg (by omega), if_neg (by omega), hst]
   simp only [if_pos ho]
   rw [← hb]
   rfl
  ·unfold trAt
   show (match push j (rdR p j) (stk p j) with | [] => T.nil | e :: _ => e.t) = _
   unfold push
   rw [if_neg (by omega), if_neg (by omega), hst]
   simp only [if_neg (show ¬ (rdR p j).f0 = 6 by omega), if_pos ho]
   rw [← hb]
   rfl
theorem tr_two {p : List RE} (h : Ok p) {j : Nat} (hj : j < p.length) (ha : arity (rdR p j).f0 = 2) :
  ∃ a b st, stk p j = b :: a :: st ∧ b.r = j - 1 ∧ a.r + 1 = b.s ∧ b.s ≤ b.r ∧ 1 ≤ j ∧ kidsAt p j = [(a.r : Int), ((j - 1 : Nat) : Int)] ∧ trAt p j = two (rdR p j).f0 (trAt p a.r) (trAt p (j - 1)) := by
 obtain ⟨h0, h1⟩ := h.ar hj
 have hc := chain h j (by omega)
 have hm := tr_mem h j (by omega)
 have hne : (rdR p j).f0 ≠ 1 ∧ (rdR p j).f0 ≠ 2 ∧ (rdR p j).f0 ≠ 6 ∧ (rdR p j).f0 ≠ 7 := by
  obtain ⟨a1, a2, a6, a7, _⟩ := @arity_eq (rdR p j).f0
  exact ⟨fun e => by have := a1 e; omega, fun e => by have := a2 e; omega, fun e => by have := a6 e; omega, fun e => by have := a7 e; omega⟩
 cases hst : stk p j with
 | nil => rw [hst, ha] at h1; simp at h1
 | cons b st1 =>
  cases st1 with
  | nil => rw [hst, ha] at h1; simp at h1
  | cons a st =>
   rw [hst] at hc
   obtain ⟨c1, c2, c3, c4, c5⟩ := hc
   have hb := (hm b (by rw [hst]; exact List.mem_cons_self)).2
   have ha2 := (hm a (by rw [hst]; exact List.mem_cons_of_mem _ List.mem_cons_self)).2
   rw [show b.r = j - 1 by omega] at hb
   refine ⟨a, b, st, rfl, by omega, by omega, by omega, by omega, ?_, ?_⟩
   ·unfold kidsAt
    rw [ha, hst]
    simp
    omega
   ·rw [hb, ha2]
    unfold trAt
    show (match push j (rdR p j) (stk p j) with | [] => T.nil | e :: _ => e.t) = _
    unfold push
    rw [if_neg hne.1, if_neg hne.2.1, hst]
    simp only [if_neg hne.2.2.1, if_neg hne.2.2.2]
end Go.Proofs.Ytkpeihdlmjdejaa.Pure
