/- Plain laws of searching: the longest match from a place, the first hit. -/
import Derived.Test.YtkpeihdlmjdejaaCP0
import Derived.Test.YtkpeihdlmjdejaaC0
import Derived.Test.YtkpeihdlmjdejaaC1
import Derived.Test.YtkpeihdlmjdejaaC2
import Derived.Test.YtkpeihdlmjdejaaC3
import Derived.Test.YtkpeihdlmjdejaaCMatchS
set_option linter.unusedVariables false
set_option linter.unusedSimpArgs false
namespace Go.Proofs.Ytkpeihdlmjdejaa.Pure
open Go.RowKit Go.Proofs.Ytkpeihdlmjdejaa.P Go.Proofs.YtkpeihdlmjdejaaW.PrintWords
def tree (p : List RE) : T := trAt p (p.length - 1)
def askedB (p : List RE) (l : List Int) : Bool := goodReB p && (decide ((l.length : Int) ≤ 120) && l.all runeB)
theorem specAsked (p : List RE) (hp : SmallR p) (l : List Int) (hl : l.length ≤ 1000000000) : Ev (fun k => spec_l7Asked.f k p l) (askedB p l) := by
 unfold spec_l7Asked.f askedB
 refine Ev.bind (specGoodRe p hp) ?_
 cases goodReB p
 ·exact Ev.neg (by simp) (Ev.now _)
 refine Ev.pos rfl (Ev.bind (l1AllRunes l (by omega)) ?_)
 by_cases h : (l.length : Int) ≤ 120
 ·rw [decide_eq_true (show l.length ≤ 1000 by omega), Bool.and_true, decide_eq_true h, Bool.true_and, Bool.true_and]
  cases l.all runeB
  ·exact Ev.neg (by simp) (Ev.now _)
  ·exact Ev.pos rfl (Ev.now _)
 ·rw [decide_eq_false h, Bool.false_and, Bool.true_and]
  cases l.all runeB && decide (l.length ≤ 1000)
  ·exact Ev.neg (by simp) (Ev.now _)
  ·exact Ev.pos rfl (Ev.now _)
theorem implAsked (p : List RE) (hp : SmallR p) (l : List Int) : Ev (fun k => impl_canFind.f k p l) (askedB p l) := by
 unfold impl_canFind.f askedB
 refine Ev.bind (implGoodRe p hp) ?_
 cases goodReB p
 ·exact Ev.neg (by simp) (Ev.now _)
 ·exact Ev.pos rfl (Ev.bind (Ev.congr (fun k => areRunes l 120 k) (Ev.now _)) (Ev.some' (by simp)))
structure Asked (p : List RE) (l : List Int) : Prop where
 ok : Ok p
 p1 : 1 ≤ p.length
 p2 : p.length ≤ 40
 l2 : l.length ≤ 120
theorem Asked.of {p : List RE} {l : List Int} (h : askedB p l = true) : Asked p l := by
 unfold askedB at h
 simp only [Bool.and_eq_true, decide_eq_true_eq] at h
 obtain ⟨h1, h2, h3, _⟩ := goodRe_parts h.1
 exact ⟨Ok.of h3, h2, h1, by omega⟩
theorem has_full {p : List RE} {l : List Int} {a b : Nat} (h1 : 1 ≤ p.length) (ha : a ≤ l.length) (hb : b ≤ l.length) : impl_matcher_has.f (olds p l p.length) ((p.length : Int) - 1) (a : Int) (b : Int) = some (cellB (tree p) l a b) := by
 rw [show (p.length : Int) - 1 = ((p.length - 1 : Nat) : Int) by omega]
 refine has_grid (n := l.length + 1) (F := cellB (tree p) l) ?_ (by rw [olds_length]; omega) (by omega) (by omega)
 unfold olds
 rw [List.getD_eq_getElem?_getD, List.getElem?_map, List.getElem?_range (by omega)]
 rfl
def lastF (p : Nat → Bool) (lo : Nat) : Nat → Option Nat
 | 0 => none
 | d + 1 => if p (lo + d) = true then some (lo + d) else lastF p lo d
def lastI : Option Nat → Int
 | some x => x
 | none => -1
theorem lastF_some {p : Nat → Bool} {lo : Nat} : ∀ {d y : Nat}, lastF p lo d = some y → lo ≤ y ∧ y < lo + d ∧ p y = true ∧ ∀ m, y < m → m < lo + d → p m = false
 | 0, y, h => by simp [lastF] at h
 | d + 1, y, h => by
  simp only [lastF] at h
  split at h
  ·rename_i hp
   injection h with h
   subst h
   exact ⟨by omega, by omega, hp, fun m h1 h2 => by omega⟩
  ·rename_i hp
   obtain ⟨h1, h2, h3, h4⟩ := lastF_some h
   refine ⟨h1, by omega, h3, fun m m1 m2 => ?_⟩
   by_cases e : m = lo + d
   ·rw [e]; simpa using hp
   ·exact h4 m m1 (by omega)
theorem lastF_none {p : Nat → Bool} {lo : Nat} : ∀ {d : Nat}, lastF p lo d = none ↔ ∀ m, lo ≤ m → m < lo + d → p m = false
 | 0 => ⟨fun _ m h1 h2 => by omega, fun _ => rfl⟩
 | d + 1 => by
  simp only [lastF]
  split
  ·rename_i hp
   exact ⟨fun h => (by cases h), fun h => (by have := h (lo + d) (by omega) (by omega); rw [hp] at this; cases this)⟩
  ·rename_i hp
   rw [lastF_none]
   constructor
   ·intro h m h1 h2
    by_cases e : m = lo + d
    ·rw [e]; simpa using hp
    ·exact h m h1 (by omega)
   ·exact fun h m h1 h2 => h m h1 (by omega)
theorem lastF_congr {p q : Nat → Bool} {lo : Nat} : ∀ {d : Nat}, (∀ m, lo ≤ m → m < lo + d → p m = q m) → lastF p lo d = lastF q lo d
 | 0, _ => rfl
 | d + 1, h => by
  simp only [lastF]
  rw [h (lo + d) (by omega) (by omega), lastF_congr (fun m h1 h2 => h m h1 (by omega))]
theorem longest_l {p : List RE} {l : List Int} (h1 : 1 ≤ p.length) {a : Nat} (ha : a ≤ l.length) : ∀ d : Nat, a + d ≤ l.length + 1 → Ev (fun k => impl_matcher_longest.l0 (olds p l p.length) ((p.length : Int) - 1) (a : Int) k (((a + d : Nat) : Int) - 1)) (lastI (lastF (cellB (tree p) l a) a d))
 | 0, hd => Ev.step (fun k => impl_matcher_longest.l0.eq_2 ..) (Ev.neg (by omega) (Ev.now _))
 | d + 1, hd => by
  have ih := longest_l h1 ha d (by omega)
  rw [show ((a + (d + 1) : Nat) : Int) - 1 = ((a + d : Nat) : Int) by omega]
  refine Ev.step (fun k => impl_matcher_longest.l0.eq_2 ..) (Ev.pos (by omega) (Ev.bind0 (has_full h1 ha (by omega)) ?_))
  simp only [lastF]
  cases c : cellB (tree p) l a (a + d)
  ·rw [if_neg (by simp)]
   exact Ev.neg (by simp) ih
  ·rw [if_pos rfl]
   exact Ev.pos rfl (Ev.now _)
theorem longest_ev {p : List RE} {l : List Int} (h1 : 1 ≤ p.length) (h2 : p.length ≤ 1000) (hl : l.length ≤ 1000) {a b : Nat} (ha : a ≤ l.length) (hb : b ≤ l.length) : Ev (fun k => impl_matcher_longest.f k p (olds p l p.length) (a : Int) (b : Int)) (lastI (lastF (cellB (tree p) l a) a (b + 1 - a))) := by
 unfold impl_matcher_longest.f
 refine Ev.pos ⟨by omega, ⟨by omega, by omega⟩, by omega, by omega⟩ ?_
 by_cases h : a ≤ b + 1
 ·have := longest_l (p := p) h1 ha (b + 1 - a) (by omega)
  rw [show ((a + (b + 1 - a) : Nat) : Int) - 1 = (b : Int) by omega] at this
  exact this
 ·rw [show b + 1 - a = 0 by omega]
  exact Ev.step (fun k => impl_matcher_longest.l0.eq_2 ..) (Ev.neg (by omega) (Ev.now _))
def findP (P : Nat → Nat → Bool) (b : Nat) : Nat → Nat → Int × Int × Bool
 | 0, _ => (0, 0, false)
 | d + 1, x => match lastF (P x) x (b + 1 - x) with
  | some y => ((x : Int), (y : Int), true)
  | none => findP P b d (x + 1)
theorem find_l {p : List RE} {l : List Int} (h1 : 1 ≤ p.length) (h2 : p.length ≤ 1000) (hl : l.length ≤ 1000) {b : Nat} (hb : b ≤ l.length) : ∀ d x : Nat, x + d = b + 1 → ∃ K, ∀ kk k, K ≤ kk → K ≤ k → impl_matcher_find.l0 kk p (olds p l p.length) (b : Int) k (x : Int) = some (findP (cellB (tree p) l) b d x)
 | 0, x, hd => ⟨1, fun kk k _ hk => by
  obtain ⟨k, rfl⟩ : ∃ m, k = m + 1 := ⟨k - 1, by omega⟩
  rw [impl_matcher_find.l0, if_neg (by omega)]
  rfl⟩
 | d + 1, x, hd => by
  obtain ⟨K1, hK1⟩ := longest_ev (p := p) h1 h2 hl (show x ≤ l.length by omega) hb
  obtain ⟨K2, hK2⟩ := find_l (p := p) h1 h2 hl hb d (x + 1) (by omega)
  refine ⟨max K1 K2 + 1, fun kk k hkk hk => ?_⟩
  obtain ⟨k, rfl⟩ : ∃ m, k = m + 1 := ⟨k - 1, by omega⟩
  have e1 := hK1 kk (by omega)
  have e2 := hK2 kk k (by omega) (by omega)
  rw [show (((x + 1 : Nat)) : Int) = (x : Int) + 1 by omega] at e2
  rw [impl_matcher_find.l0, if_pos (by omega)]
  simp only at e1
  rw [e1, Option.bind_some, e2]
  simp only [findP]
  cases lastF (cellB (tree p) l x) x (b + 1 - x) with
  | none => exact if_neg (by simp [lastI])
  | some y => exact if_pos (by simp [lastI])
theorem find_ev {p : List RE} {l : List Int} (h1 : 1 ≤ p.length) (h2 : p.length ≤ 1000) (hl : l.length ≤ 1000) {a b : Nat} (hb : b ≤ l.length) (hab : a ≤ b + 1) : Ev (fun k => impl_matcher_find.f k p (olds p l p.length) (a : Int) (b : Int)) (findP (cellB (tree p) l) b (b + 1 - a) a) := by
 obtain ⟨K, hK⟩ := find_l (p := p) h1 h2 hl hb (b + 1 - a) a (by omega)
 refine ⟨K, fun k hk => ?_⟩
 show impl_matcher_find.f k p (olds p l p.length) (a : Int) (b : Int) = _
 unfold impl_matcher_find.f
 rw [if_pos ⟨⟨by omega, by omega⟩, by omega, by omega⟩]
 exact hK k k hk hk
def findR (p : List RE) (l : List Int) : Int × Int × Bool := findP (cellB (tree p) l) l.length (l.length + 1) 0
theorem specFind_l1 {p : List RE} {l : List Int} (hl : l.length ≤ 1000) {x : Nat} (hx : x ≤ l.length) {v : Int × Int × Bool} (hv : Ev (fun k => spec_l7Find.l0 k (flatR (tree p) l) ((l.length + 1 : Nat) : Int) ((x + 1 : Nat) : Int)) v) :
  ∀ d : Nat, x + d ≤ l.length + 1 → Ev (fun k => spec_l7Find.l1 k (flatR (tree p) l) ((l.length + 1 : Nat) : Int) (x : Int) (((x + d : Nat) : Int) - 1)) (match lastF (cellB (tree p) l x) x d with
   | some y => ((x : Int), (y : Int), true)
   | none => v)
 | 0, hd => by
  refine Ev.step (fun k => spec_l7Find.l1.eq_2 ..) (Ev.neg (by omega) ?_)
  rw [w64s (by omega)]
  exact hv
 | d + 1, hd => by
  have ih := specFind_l1 (p := p) hl hx hv d (by omega)
  have hlt := flat_lt (n := l.length + 1) (a := x) (b := x + d) (by omega) (by omega)
  rw [show ((x + (d + 1) : Nat) : Int) - 1 = ((x + d : Nat) : Int) by omega]
  refine Ev.step (fun k => spec_l7Find.l1.eq_2 ..) ?_
  rw [ixw (n := l.length + 1) (by omega) (show x ≤ l.length + 1 by omega) (show x + d ≤ l.length + 1 by omega), flatR_length, flatR_at (by omega) (by omega)]
  refine Ev.pos (by omega) (Ev.pos (by omega) (Ev.pos (by exact_mod_cast hlt) ?_))
  simp only [lastF]
  cases c : cellB (tree p) l x (x + d)
  ·rw [if_neg (by simp), w64 (by omega) (by omega)]
   exact Ev.neg (by simp) ih
  ·rw [if_pos rfl]
   exact Ev.pos rfl (Ev.now _)
theorem specFind_l0 {p : List RE} {l : List Int} (hl : l.length ≤ 1000) : ∀ d x : Nat, x + d = l.length + 1 → Ev (fun k => spec_l7Find.l0 k (flatR (tree p) l) ((l.length + 1 : Nat) : Int) (x : Int)) (findP (cellB (tree p) l) l.length d x)
 | 0, x, hd => Ev.step (fun k => spec_l7Find.l0.eq_2 ..) (Ev.neg (by omega) (Ev.now _))
 | d + 1, x, hd => by
  have ih := specFind_l0 (p := p) hl d (x + 1) (by omega)
  refine Ev.step (fun k => spec_l7Find.l0.eq_2 ..) (Ev.pos (by omega) ?_)
  have := specFind_l1 (p := p) hl (show x ≤ l.length by omega) ih (l.length + 1 - x) (by omega)
  rw [show ((x + (l.length + 1 - x) : Nat) : Int) - 1 = ((l.length + 1 : Nat) : Int) - 1 by omega] at this
  rw [w64 (by omega) (by omega)]
  exact this
theorem last_table {p : List RE} {l : List Int} (h1 : 1 ≤ p.length) : rd_L5 (sOlds p l p.length) ((p.length - 1 : Nat) : Int) = flatR (tree p) l := sOlds_rd (show p.length - 1 < p.length by omega)
theorem specFind {p : List RE} {l : List Int} (h : Ok p) (hp : SmallR p) (h1 : 1 ≤ p.length) (hl : l.length ≤ 1000) : Ev (fun k => spec_l7Find.f k p l) (findR p l) := by
 have hlen := hp.len
 unfold spec_l7Find.f findR
 have ew : wrap64 ((p.length : Int) - 1) = ((p.length - 1 : Nat) : Int) := by rw [w64 (by omega) (by omega)]; omega
 refine Ev.bind (specTable h hp hl) ?_
 rw [ew, sOlds_length, last_table h1, w64s (by omega)]
 exact Ev.pos (by omega) (Ev.pos (by omega) (specFind_l0 (p := p) hl (l.length + 1) 0 (by omega)))
def findInR (p : List RE) (l : List Int) : Int × Int × Bool := if askedB p l then findR p l else (0, 0, false)
theorem specFindIn (p : List RE) (hp : SmallR p) (l : List Int) (hl : l.length ≤ 1000000000) : Ev (fun k => spec_FindIn.f k p l) (findInR p l) := by
 unfold spec_FindIn.f findInR
 refine Ev.bind (specAsked p hp l hl) ?_
 cases h : askedB p l
 ·exact Ev.neg (by simp) (Ev.now _)
 ·have ha := Asked.of h
  exact Ev.pos rfl (Ev.bind (specFind ha.ok hp ha.p1 (by have := ha.l2; omega)) (Ev.now _))
theorem implFindIn (p : List RE) (hp : SmallR p) (l : List Int) : Ev (fun k => impl_FindIn.f k p l) (findInR p l) := by
 unfold impl_FindIn.f findInR
 refine Ev.bind (implAsked p hp l) ?_
 cases h : askedB p l
 ·exact Ev.neg (by simp) (Ev.now _)
 ·have ha := Asked.of h
  have h2 := ha.p2
  have h3 := ha.l2
  refine Ev.pos rfl (Ev.bind (implMatch ha.ok hp (by omega) (show l.length ≤ 1000 by omega)) ?_)
  exact find_ev (a := 0) (b := l.length) ha.p1 (by omega) (by omega) (by omega) (by omega)
end Go.Proofs.Ytkpeihdlmjdejaa.Pure
