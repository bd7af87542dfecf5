/- Plain laws of patterns in the laws: copies, sizes, comparisons. -/
import Derived.Test.YtkpeihdlmjdejaaCP0
import Derived.Test.YtkpeihdlmjdejaaC0
import Derived.Test.YtkpeihdlmjdejaaC1
import Derived.Test.YtkpeihdlmjdejaaC2
import Derived.Test.YtkpeihdlmjdejaaCRes
set_option linter.unusedVariables false
set_option linter.unusedSimpArgs false
namespace Go.Proofs.Ytkpeihdlmjdejaa.Pure
open Go.RowKit Go.Proofs.Ytkpeihdlmjdejaa.P Go.Proofs.YtkpeihdlmjdejaaW.PrintWords
abbrev LRE := S87
def reOf (x : LRE) : RE := ⟨x.f0, x.f1⟩
theorem rdLR_eq (p : List LRE) {i : Nat} (h : i < p.length) : rd_T87 p (i : Int) = p[i] := by
 unfold rd_T87
 rw [Int.toNat_natCast, List.getD_eq_getElem?_getD, List.getElem?_eq_getElem h]
 rfl
theorem toReS_l (p : List LRE) (hs : p.length ≤ 1048576) (hx : ∀ x ∈ p, x.f1.length ≤ 1048576) : ∀ (d i : Nat) (q : List RE), i + d = p.length → q.length = p.length → q.take i = (p.map reOf).take i → Ev (fun k => laws_toReS.l0 k p q (i : Int)) (p.map reOf)
 | 0, i, q, hd, hl, ht => by
  refine Ev.step (fun k => laws_toReS.l0.eq_2 ..) (Ev.neg (by omega) (Ev.some' ?_))
  rw [List.take_of_length_le (by omega), List.take_of_length_le (by simp; omega)] at ht
  exact ht
 | d + 1, i, q, hd, hl, ht => by
  refine Ev.step (fun k => laws_toReS.l0.eq_2 ..) (Ev.pos (by omega) (Ev.pos (by omega) ?_))
  rw [rdLR_eq p (show i < p.length by omega)]
  have hs1 : (p[i]'(by omega)).f1.length ≤ 1048576 := hx _ (List.getElem_mem _)
  have h1 : Ev (fun k => laws_toRe.f k (p[i]'(by omega)).f0 (p[i]'(by omega)).f1) ((p[i]'(by omega)).f0, (p[i]'(by omega)).f1) := by
   unfold laws_toRe.f
   exact Ev.bind (toIntS _ (by omega)) (Ev.now _)
  refine Ev.bind h1 (Ev.pos (by omega) ?_)
  rw [w64s (by omega), Int.toNat_natCast]
  refine toReS_l p hs hx d (i + 1) _ (by omega) (by simpa using hl) ?_
  have := take_set_step (p.map reOf) q i (by simp; omega) (by simpa using hl) ht
  rw [List.getElem_map] at this
  exact this
theorem toReS (p : List LRE) (hs : p.length ≤ 1048576) (hx : ∀ x ∈ p, x.f1.length ≤ 1048576) : Ev (fun k => laws_toReS.f k p) (p.map reOf) := by
 unfold laws_toReS.f
 exact Ev.pos (by omega) (Ev.pos (by omega) (toReS_l p hs hx p.length 0 _ (by omega) (by simp) (by simp)))
theorem eqReS_self (p : List RE) (hp : SmallR p) : Ev (fun k => laws_eqReS.f k p p) true := by
 have hlen := hp.len
 unfold laws_eqReS.f
 refine Ev.pos rfl ?_
 have h := Ev.allLoop (g := fun k i => laws_eqReS.l0 k p p (i : Int)) (p := fun _ => true) (n := p.length) (r := true)
  (Ev.step (fun k => laws_eqReS.l0.eq_2 ..) (Ev.neg (by omega) (Ev.now _))) (fun i _ h => by simp at h)
  (fun i v hi _ h => by
   refine Ev.step (fun k => laws_eqReS.l0.eq_2 ..) (Ev.pos (by omega) (Ev.pos (by omega) (Ev.pos (by omega) ?_)))
   rw [rdR_eq p hi, w64s (by omega)]
   have hs := hp.sets _ (List.getElem_mem hi)
   have h1 : Ev (fun k => laws_eqRe.f k p[i].f0 p[i].f1 p[i].f0 p[i].f1) true := by
    unfold laws_eqRe.f
    exact Ev.pos rfl (Ev.bind (eqIntS_self _ (by omega)) (Ev.pos rfl (Ev.now _)))
   exact Ev.bind h1 (Ev.pos rfl h)) p.length 0 (by omega)
 have e : allFrom (fun _ => true) 0 p.length = true := (allFrom_iff _ _ _).2 (fun _ _ _ => rfl)
 rw [e] at h
 exact h
theorem szIntS_re (l : List Int) (a : Int) (h : l.length ≤ 1000000000000000) (ha : 0 ≤ a) (ha2 : a ≤ 1000000000000) : laws_szIntS.f l a = some (if a < (l.length : Int) then -1 else a - (l.length : Int)) := by
 unfold laws_szIntS.f
 rw [w64 (by omega) (by omega)]
 by_cases h2 : a < (l.length : Int)
 ·rw [if_pos (by omega), if_pos h2]
 ·rw [if_neg (by omega), if_neg h2]
theorem szReS_l (p : List LRE) (hs : p.length ≤ 1000000000000) (hx : ∀ x ∈ p, x.f1.length ≤ 1000000000000000) : ∀ (d i : Nat) (a : Int), i + d = p.length → 0 ≤ a → a ≤ 1048576 → ∃ r, Ev (fun k => laws_szReS.l0 k p a (i : Int)) r ∧ (r < 0 ∨ (0 ≤ r ∧ r ≤ a ∧ ∀ x ∈ p.drop i, x.f1.length ≤ 1048576))
 | 0, i, a, hd, h0, h1 => by
  refine ⟨a, Ev.step (fun k => laws_szReS.l0.eq_2 ..) (Ev.neg (by omega) (Ev.now _)), .inr ⟨h0, Int.le_refl _, fun x hm => ?_⟩⟩
  rw [List.drop_eq_nil_of_le (by omega)] at hm
  cases hm
 | d + 1, i, a, hd, h0, h1 => by
  have hxi := hx _ (List.getElem_mem (show i < p.length by omega))
  have hg := szIntS_re (p[i]'(by omega)).f1 a hxi h0 (by omega)
  by_cases hc : a < ((p[i]'(by omega)).f1.length : Int)
  ·rw [if_pos hc] at hg
   refine ⟨-1, Ev.step (fun k => laws_szReS.l0.eq_2 ..) (Ev.pos (by omega) (Ev.pos (by omega) ?_)), .inl (by omega)⟩
   rw [rdLR_eq p (show i < p.length by omega)]
   refine Ev.bind0 (a := -1) ?_ (Ev.pos (by omega) (Ev.now _))
   unfold laws_szRe.f
   rw [hg, Option.bind_some, if_pos (by omega)]
  ·rw [if_neg hc] at hg
   obtain ⟨r, hr, h⟩ := szReS_l p hs hx d (i + 1) (a - ((p[i]'(by omega)).f1.length : Int)) (by omega) (by omega) (by omega)
   refine ⟨r, Ev.step (fun k => laws_szReS.l0.eq_2 ..) (Ev.pos (by omega) (Ev.pos (by omega) ?_)), ?_⟩
   ·rw [rdLR_eq p (show i < p.length by omega)]
    refine Ev.bind0 (a := a - ((p[i]'(by omega)).f1.length : Int)) ?_ (Ev.neg (by omega) ?_)
    ·unfold laws_szRe.f
     rw [hg, Option.bind_some, if_neg (by omega)]
    ·rw [w64s (by omega)]
     exact hr
   ·rcases h with h | ⟨h2, h3, h4⟩
    ·exact .inl h
    ·refine .inr ⟨h2, by omega, fun x hm => ?_⟩
     rw [drop_cons p (show i < p.length by omega)] at hm
     rcases List.mem_cons.1 hm with rfl | hm
     ·omega
     ·exact h4 x hm
theorem szReS_cases (p : List LRE) (a : Int) (ha0 : 0 ≤ a) (ha : a ≤ 1048576) (hs : p.length ≤ 1000000000000000) (hx : ∀ x ∈ p, x.f1.length ≤ 1000000000000000) : ∃ r, Ev (fun k => laws_szReS.f k p a) r ∧ (r < 0 ∨ (0 ≤ r ∧ r ≤ a ∧ p.length ≤ 1048576 ∧ ∀ x ∈ p, x.f1.length ≤ 1048576)) := by
 unfold laws_szReS.f
 rw [w64 (by omega) (by omega)]
 by_cases h : a < (p.length : Int)
 ·exact ⟨-1, Ev.pos (by omega) (Ev.now _), .inl (by omega)⟩
 ·obtain ⟨r, hr, hh⟩ := szReS_l p (by omega) hx p.length 0 (a - (p.length : Int)) (by omega) (by omega) (by omega)
  refine ⟨r, Ev.neg (by omega) hr, ?_⟩
  rcases hh with hh | ⟨h1, h2, h3⟩
  ·exact .inl hh
  ·exact .inr ⟨h1, by omega, by omega, fun x hm => h3 x (by simpa using hm)⟩
theorem smallR_of {p : List LRE} (h1 : p.length ≤ 1048576) (h2 : ∀ x ∈ p, x.f1.length ≤ 1048576) : SmallR (p.map reOf) := ⟨by simpa using h1, fun x hx => by
 obtain ⟨y, hy, rfl⟩ := List.mem_map.1 hx
 exact h2 y hy⟩
end Go.Proofs.Ytkpeihdlmjdejaa.Pure
