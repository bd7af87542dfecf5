/- Plain laws of talks in the laws: copies, sizes, comparisons, marks; and what both SentOf answer. -/
import Derived.Test.YthjbgnmnemblhaaCP0
import Derived.Test.YthjbgnmnemblhaaC0
import Derived.Test.YthjbgnmnemblhaaC1
import Derived.Test.YthjbgnmnemblhaaC2
import Derived.Test.YthjbgnmnemblhaaC3
import Derived.Test.YthjbgnmnemblhaaC4
import Derived.Test.YthjbgnmnemblhaaCLoops
import Derived.Test.YthjbgnmnemblhaaCBase
set_option linter.unusedVariables false
set_option linter.unusedSimpArgs false
namespace Go.Proofs.Ythjbgnmnemblhaa.Pure
open Go.RowKit Go.Proofs.Ythjbgnmnemblhaa.P Go.Proofs.YthjbgnmnemblhaaW.PrintWords
abbrev LEV := S66
abbrev EV := S55
def evOf (x : LEV) : EV := ⟨x.f0, x.f1, x.f2, x.f3, x.f4⟩
theorem toLoop {α β : Type} (p : List α) (h : α → β) (g : Nat → List β → Nat → Option (List β)) (h0 : ∀ q, Ev (fun k => g k q p.length) q)
  (hs : ∀ (i : Nat) (q r : List β) (hi : i < p.length), q.length = p.length → Ev (fun k => g k (q.set i (h (p[i]'hi))) (i + 1)) r → Ev (fun k => g k q i) r) :
  ∀ (d i : Nat) (q : List β), i + d = p.length → q.length = p.length → q.take i = (p.map h).take i → Ev (fun k => g k q i) (p.map h)
 | 0, i, q, hd, hl, ht => by
  have e : i = p.length := by omega
  subst e
  rw [List.take_of_length_le (by omega), List.take_of_length_le (by simp)] at ht
  rw [← ht]
  exact h0 q
 | d + 1, i, q, hd, hl, ht => by
  refine hs i q _ (by omega) hl (toLoop p h g h0 hs d (i + 1) _ (by omega) (by simpa using hl) ?_)
  have := take_set_step (p.map h) q i (by simp; omega) (by simpa using hl) ht
  rw [List.getElem_map] at this
  exact this
theorem szLoop {α : Type} (p : List α) (P : α → Prop) (g : Nat → Int → Nat → Option Int) (h0 : ∀ a, Ev (fun k => g k a p.length) a)
  (hs : ∀ (i : Nat) (a : Int) (hi : i < p.length), 0 ≤ a → a ≤ 1048576 → Ev (fun k => g k a i) (-1) ∨ ∃ a', 0 ≤ a' ∧ a' ≤ a ∧ P (p[i]'hi) ∧ ∀ r, Ev (fun k => g k a' (i + 1)) r → Ev (fun k => g k a i) r) :
  ∀ (d i : Nat) (a : Int), i + d = p.length → 0 ≤ a → a ≤ 1048576 → ∃ r, Ev (fun k => g k a i) r ∧ (r < 0 ∨ (0 ≤ r ∧ r ≤ a ∧ ∀ x ∈ p.drop i, P x))
 | 0, i, a, hd, ha, hb => by
  have e : i = p.length := by omega
  subst e
  exact ⟨a, h0 a, .inr ⟨ha, Int.le_refl _, fun x hx => by simp at hx⟩⟩
 | d + 1, i, a, hd, ha, hb => by
  rcases hs i a (by omega) ha hb with h | ⟨a', h1, h2, h3, h4⟩
  ·exact ⟨-1, h, .inl (by omega)⟩
  ·obtain ⟨r, hr, hc⟩ := szLoop p P g h0 hs d (i + 1) a' (by omega) h1 (by omega)
   refine ⟨r, h4 r hr, ?_⟩
   rcases hc with hc | ⟨c1, c2, c3⟩
   ·exact .inl hc
   ·refine .inr ⟨c1, by omega, fun x hx => ?_⟩
    rw [drop_cons p (show i < p.length by omega)] at hx
    rcases List.mem_cons.1 hx with rfl | hx
    ·exact h3
    ·exact c3 x hx
theorem rdLEV_eq (p : List LEV) {i : Nat} (h : i < p.length) : rd_T66 p (i : Int) = p[i] := by
 unfold rd_T66
 rw [Int.toNat_natCast, List.getD_eq_getElem?_getD, List.getElem?_eq_getElem h]
 rfl
theorem rdEV_eq (p : List EV) {i : Nat} (h : i < p.length) : rd_T55 p (i : Int) = p[i] := by
 unfold rd_T55
 rw [Int.toNat_natCast, List.getD_eq_getElem?_getD, List.getElem?_eq_getElem h]
 rfl
theorem szIntS_neg (l : List Int) (a : Int) (h : l.length ≤ 1000000000000000) (ha : 0 ≤ a) (ha2 : a ≤ 1000000000000) : laws_szIntS.f l a = some (if a < (l.length : Int) then -1 else a - (l.length : Int)) := by
 unfold laws_szIntS.f
 rw [w64 (by omega) (by omega)]
 by_cases h2 : a < (l.length : Int)
 ·rw [if_pos (by omega), if_pos h2]
 ·rw [if_neg (by omega), if_neg h2]
theorem toEventS (p : List LEV) (hs : p.length ≤ 1048576) (hx : ∀ x ∈ p, x.f4.length ≤ 1048576) : Ev (fun k => laws_toEventS.f k p) (p.map evOf) := by
 unfold laws_toEventS.f
 refine Ev.pos (by omega) (Ev.pos (by omega) ?_)
 refine toLoop p evOf (fun k q i => laws_toEventS.l0 k p q (i : Int)) (fun q => Ev.step (fun k => laws_toEventS.l0.eq_2 ..) (Ev.neg (by omega) (Ev.now _))) (fun i q r hi hl hr => ?_) p.length 0 _ (by omega) (by simp) (by simp)
 refine Ev.step (fun k => laws_toEventS.l0.eq_2 ..) (Ev.pos (by omega) (Ev.pos (by omega) ?_))
 rw [rdLEV_eq p hi]
 have hc := hx _ (List.getElem_mem hi)
 have h1 : Ev (fun k => laws_toEvent.f k (p[i]'hi).f0 (p[i]'hi).f1 (p[i]'hi).f2 (p[i]'hi).f3 (p[i]'hi).f4) ((p[i]'hi).f0, (p[i]'hi).f1, (p[i]'hi).f2, (p[i]'hi).f3, (p[i]'hi).f4) := by
  unfold laws_toEvent.f
  exact Ev.bind (toIntS _ (by omega)) (Ev.now _)
 refine Ev.bind h1 (Ev.pos (by omega) ?_)
 rw [w64s (by omega), Int.toNat_natCast]
 exact hr
theorem eqEventS_self (p : List EV) (hs : p.length ≤ 1048576) (hx : ∀ x ∈ p, x.f4.length ≤ 1048576) : Ev (fun k => laws_eqEventS.f k p p) true := by
 unfold laws_eqEventS.f
 refine Ev.pos rfl ?_
 have h := Ev.allLoop (g := fun k i => laws_eqEventS.l0 k p p (i : Int)) (p := fun _ => true) (n := p.length) (r := true)
  (Ev.step (fun k => laws_eqEventS.l0.eq_2 ..) (Ev.neg (by omega) (Ev.now _))) (fun i _ h => by simp at h)
  (fun i v hi _ h => by
   refine Ev.step (fun k => laws_eqEventS.l0.eq_2 ..) (Ev.pos (by omega) (Ev.pos (by omega) (Ev.pos (by omega) ?_)))
   rw [rdEV_eq p hi, w64s (by omega)]
   have hc := hx _ (List.getElem_mem hi)
   have h1 : Ev (fun k => laws_eqEvent.f k p[i].f0 p[i].f1 p[i].f2 p[i].f3 p[i].f4 p[i].f0 p[i].f1 p[i].f2 p[i].f3 p[i].f4) true := by
    unfold laws_eqEvent.f
    exact Ev.pos rfl (Ev.pos rfl (Ev.pos rfl (Ev.pos rfl (Ev.bind (eqIntS_self _ (by omega)) (Ev.pos rfl (Ev.now _))))))
   exact Ev.bind h1 (Ev.pos rfl h)) p.length 0 (by omega)
 have e : allFrom (fun _ => true) 0 p.length = true := (allFrom_iff _ _ _).2 (fun _ _ _ => rfl)
 rw [e] at h
 exact h
theorem szEventS_cases (p : List LEV) (a : Int) (ha0 : 0 ≤ a) (ha : a ≤ 1048576) (hs : p.length ≤ 1000000000000000) (hx : ∀ x ∈ p, x.f4.length ≤ 1000000000000000) : ∃ r, Ev (fun k => laws_szEventS.f k p a) r ∧ (r < 0 ∨ (0 ≤ r ∧ r ≤ a ∧ p.length ≤ 1048576 ∧ ∀ x ∈ p, x.f4.length ≤ 1048576)) := by
 unfold laws_szEventS.f
 rw [w64 (by omega) (by omega)]
 by_cases h : a < (p.length : Int)
 ·exact ⟨-1, Ev.pos (by omega) (Ev.now _), .inl (by omega)⟩
 obtain ⟨r, hr, hh⟩ := szLoop p (fun x => x.f4.length ≤ 1048576) (fun k a i => laws_szEventS.l0 k p a (i : Int)) (fun a => Ev.step (fun k => laws_szEventS.l0.eq_2 ..) (Ev.neg (by omega) (Ev.now _))) (fun i a hi h0 h1 => by
  have hw := hx _ (List.getElem_mem hi)
  have g1 := szIntS_neg (p[i]'hi).f4 a hw h0 (by omega)
  by_cases b1 : a < ((p[i]'hi).f4.length : Int)
  ·rw [if_pos b1] at g1
   refine .inl (Ev.step (fun k => laws_szEventS.l0.eq_2 ..) (Ev.pos (by omega) (Ev.pos (by omega) ?_)))
   rw [rdLEV_eq p hi]
   refine Ev.bind0 (a := -1) ?_ (Ev.pos (by omega) (Ev.now _))
   unfold laws_szEvent.f
   rw [g1]
   rfl
  ·rw [if_neg b1] at g1
   refine .inr ⟨a - ((p[i]'hi).f4.length : Int), by omega, by omega, by omega, fun r hr => Ev.step (fun k => laws_szEventS.l0.eq_2 ..) (Ev.pos (by omega) (Ev.pos (by omega) ?_))⟩
   rw [rdLEV_eq p hi]
   refine Ev.bind0 (a := a - ((p[i]'hi).f4.length : Int)) ?_ (Ev.neg (by omega) ?_)
   ·unfold laws_szEvent.f
    rw [g1, Option.bind_some, if_neg (by omega)]
   ·rw [w64s (by omega)]
    exact hr) p.length 0 (a - (p.length : Int)) (by omega) (by omega) (by omega)
 refine ⟨r, Ev.neg (by omega) hr, ?_⟩
 rcases hh with hh | ⟨h1, h2, h3⟩
 ·exact .inl hh
 ·exact .inr ⟨h1, by omega, by omega, fun x hm => h3 x (by simpa using hm)⟩
theorem drop_set_succ {α : Type} (xs : List α) (i : Nat) (v : α) : (xs.set i v).drop (i + 1) = xs.drop (i + 1) := by
 apply List.ext_getElem?
 intro j
 rw [List.getElem?_drop, List.getElem?_drop, List.getElem?_set_ne (by omega)]
def evSum : List EV → Nat
 | [] => 0
 | x :: l => 4 + x.f4.length + evSum l
theorem evSum_le (b : Nat) : ∀ (l : List EV), (∀ x ∈ l, x.f4.length ≤ b) → evSum l ≤ l.length * (4 + b)
 | [], _ => by simp [evSum]
 | x :: l, h => by
  have h1 := h x (List.mem_cons_self ..)
  have h2 := evSum_le b l (fun y hy => h y (List.mem_cons_of_mem _ hy))
  rw [List.length_cons, Nat.succ_mul]
  simp only [evSum]
  omega
theorem markEventS_l : ∀ (d i : Nat) (a : Int) (xs : List EV), i + d = xs.length → xs.length ≤ 1000000000000 → 0 ≤ a → a + (evSum (xs.drop i) : Int) ≤ 100000000000000 → (∀ x ∈ xs.drop i, x.f4.length ≤ 1048576) → ∃ q, Ev (fun k => laws_markEventS.l0 k xs a (i : Int)) (a + (evSum (xs.drop i) : Int), q)
 | 0, i, a, xs, hd, hl, h0, h1, hx => by
  refine ⟨xs, Ev.step (fun k => laws_markEventS.l0.eq_2 ..) (Ev.neg (by omega) (Ev.some' ?_))⟩
  rw [List.drop_eq_nil_of_le (by omega)]
  simp [evSum]
 | d + 1, i, a, xs, hd, hl, h0, h1, hx => by
  have hi : i < xs.length := by omega
  rw [drop_cons xs hi] at h1 hx ⊢
  simp only [evSum] at h1
  have hxi := hx _ (List.mem_cons_self ..)
  have e1 : wrap64 (a + 1) = a + 1 := w64 (by omega) (by omega)
  have e2 : wrap64 (a + 1 + 1) = a + 1 + 1 := w64 (by omega) (by omega)
  have e3 : wrap64 (a + 1 + 1 + 1) = a + 1 + 1 + 1 := w64 (by omega) (by omega)
  have e4 : wrap64 (a + 1 + 1 + 1 + 1) = a + 1 + 1 + 1 + 1 := w64 (by omega) (by omega)
  obtain ⟨q, h⟩ := markEventS_l d (i + 1) (a + 1 + 1 + 1 + 1 + ((xs[i]).f4.length : Int)) (xs.set i ⟨a, a + 1, a + 1 + 1, a + 1 + 1 + 1, marked (a + 1 + 1 + 1 + 1) (xs[i]).f4.length⟩) (by simp; omega) (by simpa using hl) (by omega) (by rw [drop_set_succ]; omega) (by rw [drop_set_succ]; exact fun x h => hx x (List.mem_cons_of_mem _ h))
  refine ⟨q, Ev.step (fun k => laws_markEventS.l0.eq_2 ..) (Ev.pos (by omega) (Ev.pos (by omega) ?_))⟩
  rw [Int.toNat_natCast, List.getD_eq_getElem?_getD, List.getElem?_eq_getElem hi, Option.getD_some, e1, e2, e3, e4, w64s (by omega)]
  refine Ev.bind (markIntS (xs[i]).f4 (a + 1 + 1 + 1 + 1) (by omega) (by omega) (by omega)) ?_
  rw [drop_set_succ] at h
  simp only [evSum]
  rw [show a + ((4 + (xs[i]).f4.length + evSum (xs.drop (i + 1)) : Nat) : Int) = a + 1 + 1 + 1 + 1 + ((xs[i]).f4.length : Int) + (evSum (xs.drop (i + 1)) : Int) by omega]
  exact h
theorem markEventS (l : List EV) (a : Int) (hl : l.length ≤ 1000000000000) (h0 : 0 ≤ a) (h1 : a + (evSum l : Int) ≤ 100000000000000) (hx : ∀ x ∈ l, x.f4.length ≤ 1048576) : ∃ q, Ev (fun k => laws_markEventS.f k l a) (a + (evSum l : Int), q) := by
 unfold laws_markEventS.f
 exact markEventS_l l.length 0 a l (by omega) hl h0 h1 hx
def sentM (acc : List Int) : List EV → List Int × Bool
 | [] => (acc, true)
 | e :: l => if e.f0 = 1 then (if 1000 < (acc ++ e.f4).length then ([], false) else sentM (acc ++ e.f4) l) else sentM acc l
theorem sentM_len : ∀ (l : List EV) (acc : List Int), acc.length ≤ 1000 → (sentM acc l).1.length ≤ 1000
 | [], acc, h => h
 | e :: l, acc, h => by
  unfold sentM
  split
  ·split
   ·simp
   ·exact sentM_len l _ (by omega)
  ·exact sentM_len l acc h
theorem specSent_l (p : List EV) (hs : p.length ≤ 1048576) (hx : ∀ x ∈ p, x.f4.length ≤ 1048576) : ∀ (d i : Nat) (acc : List Int), i + d = p.length → acc.length ≤ 1000 → Ev (fun k => spec_SentOf.l0 k acc p (p.length : Int) (i : Int)) (sentM acc (p.drop i))
 | 0, i, acc, hd, ha => by
  rw [List.drop_eq_nil_of_le (by omega)]
  exact Ev.step (fun k => spec_SentOf.l0.eq_2 ..) (Ev.neg (by omega) (Ev.now _))
 | d + 1, i, acc, hd, ha => by
  have hi : i < p.length := by omega
  have hc := hx _ (List.getElem_mem hi)
  rw [drop_cons p hi]
  unfold sentM
  refine Ev.step (fun k => spec_SentOf.l0.eq_2 ..) (Ev.pos (by omega) (Ev.pos (by omega) (Ev.pos (by omega) ?_)))
  rw [rdEV_eq p hi, w64s (by omega)]
  by_cases c : (p[i]).f0 = 1
  ·rw [if_pos c]
   refine Ev.pos c (Ev.pos (by omega) (Ev.bind0 rfl ?_))
   by_cases c2 : 1000 < (acc ++ (p[i]).f4).length
   ·rw [if_pos c2]
    exact Ev.pos (by omega) (Ev.now _)
   ·rw [if_neg c2]
    exact Ev.neg (by omega) (specSent_l p hs hx d (i + 1) _ (by omega) (by omega))
  ·rw [if_neg c]
   exact Ev.neg c (Ev.neg (by omega) (specSent_l p hs hx d (i + 1) _ (by omega) ha))
theorem implSent_l (p : List EV) (hs : p.length ≤ 1048576) (hx : ∀ x ∈ p, x.f4.length ≤ 1048576) : ∀ (d i : Nat) (acc : List Int), i + d = p.length → acc.length ≤ 1000 → Ev (fun k => impl_SentOf.l0 k acc p (p.length : Int) (i : Int)) (sentM acc (p.drop i))
 | 0, i, acc, hd, ha => by
  rw [List.drop_eq_nil_of_le (by omega)]
  exact Ev.step (fun k => impl_SentOf.l0.eq_2 ..) (Ev.neg (by omega) (Ev.now _))
 | d + 1, i, acc, hd, ha => by
  have hi : i < p.length := by omega
  have hc := hx _ (List.getElem_mem hi)
  rw [drop_cons p hi]
  unfold sentM
  refine Ev.step (fun k => impl_SentOf.l0.eq_2 ..) (Ev.pos (by omega) (Ev.pos (by omega) (Ev.pos (by omega) ?_)))
  rw [rdEV_eq p hi, w64s (by omega)]
  by_cases c : (p[i]).f0 = 1
  ·rw [if_pos c]
   refine Ev.pos c (Ev.pos (by omega) (Ev.bind0 rfl ?_))
   by_cases c2 : 1000 < (acc ++ (p[i]).f4).length
   ·rw [if_pos c2]
    exact Ev.pos (by omega) (Ev.now _)
   ·rw [if_neg c2]
    exact Ev.neg (by omega) (implSent_l p hs hx d (i + 1) _ (by omega) (by omega))
  ·rw [if_neg c]
   exact Ev.neg c (implSent_l p hs hx d (i + 1) _ (by omega) ha)
abbrev TK := Int × List Int × (List EV) × Int × Int × Int × ByteArray × Int × List Int × List Int × Int × Bool
structure SmallT (v : List Int) (e : List EV) (r l : List Int) : Prop where
 sv : v.length ≤ 1048576
 se : e.length ≤ 1048576
 ses : ∀ x ∈ e, x.f4.length ≤ 1048576
 sr : r.length ≤ 1048576
 sl : l.length ≤ 1048576
section
variable (c : Int) (v : List Int) (e : List LEV) (d0 d1 d2 : Int) (d3 : ByteArray) (b0 : Int) (r l : List Int) (b3 : Int) (z : Bool)
theorem szSession_cases (a : Int) (ha : 0 ≤ a) (ha2 : a ≤ 1048576) (hd : d3.size ≤ 1000000000000000) (hr : r.length ≤ 1000000000000000) (hl : l.length ≤ 1000000000000000) :
  laws_szSession.f d0 d1 d2 d3 b0 r l b3 z a = some (-1) ∨ ∃ q, laws_szSession.f d0 d1 d2 d3 b0 r l b3 z a = some q ∧ 0 ≤ q ∧ r.length ≤ 1048576 ∧ l.length ≤ 1048576 := by
 unfold laws_szSession.f laws_szDecoder.f laws_szBuf.f
 rw [w64 (by omega) (by omega)]
 by_cases h0 : a - (d3.size : Int) < 0
 ·rw [if_pos h0]
  exact .inl rfl
 rw [if_neg h0, Option.bind_some, if_neg h0, szIntS_neg r _ hr (by omega) (by omega), Option.bind_some]
 by_cases h1 : a - (d3.size : Int) < (r.length : Int)
 ·rw [if_pos h1]
  exact .inl rfl
 rw [if_neg h1, if_neg (by omega), szIntS_neg l _ hl (by omega) (by omega), Option.bind_some]
 by_cases h2 : a - (d3.size : Int) - (r.length : Int) < (l.length : Int)
 ·rw [if_pos h2]
  exact .inl rfl
 rw [if_neg h2, if_neg (by omega), Option.bind_some, if_neg (by omega)]
 exact .inr ⟨_, rfl, by omega, by omega, by omega⟩
theorem szTalk_cases (hv : v.length ≤ 1000000000000000) (he : e.length ≤ 1000000000000000) (hes : ∀ x ∈ e, x.f4.length ≤ 1000000000000000) (hd : d3.size ≤ 1000000000000000) (hr : r.length ≤ 1000000000000000) (hl : l.length ≤ 1000000000000000) :
  ∃ q, Ev (fun k => laws_szTalk.f k c v e d0 d1 d2 d3 b0 r l b3 z 1048576) q ∧ (q < 0 ∨ (0 ≤ q ∧ SmallT v (e.map evOf) r l)) := by
 unfold laws_szTalk.f
 have g1 := szIntS_neg v 1048576 hv (by omega) (by omega)
 by_cases c1 : (1048576 : Int) < (v.length : Int)
 ·rw [if_pos c1] at g1
  exact ⟨-1, Ev.bind0 g1 (Ev.pos (by omega) (Ev.now _)), .inl (by omega)⟩
 rw [if_neg c1] at g1
 obtain ⟨q, hq, hc⟩ := szEventS_cases e (1048576 - (v.length : Int)) (by omega) (by omega) he hes
 by_cases c2 : q < 0
 ·exact ⟨-1, Ev.bind0 g1 (Ev.neg (by omega) (Ev.bind hq (Ev.pos c2 (Ev.now _)))), .inl (by omega)⟩
 rcases hc with hc | ⟨s1, s2, s3, s4⟩
 ·omega
 rcases szSession_cases d0 d1 d2 d3 b0 r l b3 z q s1 (by omega) hd hr hl with h | ⟨q2, h, t1, t2, t3⟩
 ·exact ⟨-1, Ev.bind0 g1 (Ev.neg (by omega) (Ev.bind hq (Ev.neg c2 (Ev.bind0 h (Ev.pos (by omega) (Ev.now _)))))), .inl (by omega)⟩
 ·refine ⟨q2, Ev.bind0 g1 (Ev.neg (by omega) (Ev.bind hq (Ev.neg c2 (Ev.bind0 h (Ev.neg (by omega) (Ev.now _)))))), .inr ⟨t1, by omega, by simpa using s3, fun x hx => ?_, t2, t3⟩⟩
  obtain ⟨y, hy, rfl⟩ := List.mem_map.1 hx
  exact s4 y hy
theorem toTalk (h : SmallT v (e.map evOf) r l) : Ev (fun k => laws_toTalk.f k c v e d0 d1 d2 d3 b0 r l b3 z) (c, v, e.map evOf, d0, d1, d2, d3, b0, r, l, b3, z) := by
 have h1 := h.sv
 have h2 := h.sr
 have h3 := h.sl
 have h4 : e.length ≤ 1048576 := by simpa using h.se
 unfold laws_toTalk.f
 refine Ev.bind (toIntS v (by omega)) (Ev.bind (toEventS e h4 (fun x hx => h.ses (evOf x) (List.mem_map.2 ⟨x, hx, rfl⟩))) (Ev.bind (a := (d0, d1, d2, d3, b0, r, l, b3, z)) ?_ (Ev.now _)))
 unfold laws_toSession.f
 refine Ev.bind0 (a := (d0, d1, d2, d3)) rfl (Ev.bind (a := (b0, r, l, b3)) ?_ (Ev.now _))
 unfold laws_toBuf.f
 exact Ev.bind (toIntS r (by omega)) (Ev.bind (toIntS l (by omega)) (Ev.now _))
end
section
variable (c : Int) (v : List Int) (e : List EV) (d0 d1 d2 : Int) (d3 : ByteArray) (b0 : Int) (r l : List Int) (b3 : Int) (z : Bool)
theorem eqTalk_self (h : SmallT v e r l) : Ev (fun k => laws_eqTalk.f k c v e d0 d1 d2 d3 b0 r l b3 z c v e d0 d1 d2 d3 b0 r l b3 z) true := by
 have h1 := h.sv
 have h2 := h.sr
 have h3 := h.sl
 unfold laws_eqTalk.f
 refine Ev.pos rfl (Ev.bind (eqIntS_self v (by omega)) (Ev.pos rfl (Ev.bind (eqEventS_self e h.se h.ses) (Ev.pos rfl (Ev.bind (a := true) ?_ (Ev.pos rfl (Ev.now _)))))))
 unfold laws_eqSession.f
 have hd : laws_eqDecoder.f d0 d1 d2 d3 d0 d1 d2 d3 = some true := by
  unfold laws_eqDecoder.f
  rw [if_pos rfl, if_pos rfl, if_pos rfl, if_pos rfl]
 refine Ev.bind0 hd (Ev.pos rfl (Ev.bind (a := true) ?_ (Ev.pos rfl (Ev.neg (by simp) (Ev.now _)))))
 unfold laws_eqBuf.f
 exact Ev.pos rfl (Ev.bind (eqIntS_self r (by omega)) (Ev.pos rfl (Ev.bind (eqIntS_self l (by omega)) (Ev.pos rfl (Ev.pos rfl (Ev.now _))))))
theorem markTalk (h : SmallT v e r l) : ∃ t, Ev (fun k => laws_markTalk.f k c v e d0 d1 d2 d3 b0 r l b3 z 1) t ∧ 0 ≤ t.1 := by
 have h1 := h.sv
 have h2 := h.sr
 have h3 := h.sl
 have h4 := h.se
 have h5 := evSum_le 1048576 e h.ses
 have h6 : e.length * (4 + 1048576) ≤ 1048576 * (4 + 1048576) := Nat.mul_le_mul_right _ h4
 obtain ⟨q, hq⟩ := markEventS e (1 + (v.length : Int)) (by omega) (by omega) (by omega) h.ses
 unfold laws_markTalk.f
 have hs : Ev (fun k => laws_markSession.f k d0 d1 d2 d3 b0 r l b3 z (1 + (v.length : Int) + (evSum e : Int))) (1 + (v.length : Int) + (evSum e : Int) + (r.length : Int) + (l.length : Int), marked (1 + (v.length : Int) + (evSum e : Int)) r.length, marked (1 + (v.length : Int) + (evSum e : Int) + (r.length : Int)) l.length) := by
  unfold laws_markSession.f
  refine Ev.bind (a := (1 + (v.length : Int) + (evSum e : Int) + (r.length : Int) + (l.length : Int), marked (1 + (v.length : Int) + (evSum e : Int)) r.length, marked (1 + (v.length : Int) + (evSum e : Int) + (r.length : Int)) l.length)) ?_ (Ev.now _)
  unfold laws_markBuf.f
  exact Ev.bind (markIntS r _ (by omega) (by omega) (by omega)) (Ev.bind (markIntS l _ (by omega) (by omega) (by omega)) (Ev.now _))
 exact ⟨(1 + (v.length : Int) + (evSum e : Int) + (r.length : Int) + (l.length : Int), marked 1 v.length, q, marked (1 + (v.length : Int) + (evSum e : Int)) r.length, marked (1 + (v.length : Int) + (evSum e : Int) + (r.length : Int)) l.length), Ev.bind (markIntS v 1 (by omega) (by omega) (by omega)) (Ev.bind hq (Ev.bind hs (Ev.now _))), by show (0 : Int) ≤ 1 + (v.length : Int) + (evSum e : Int) + (r.length : Int) + (l.length : Int); omega⟩
theorem specSent (h : SmallT v e r l) : Ev (fun k => spec_SentOf.f k c v e d0 d1 d2 d3 b0 r l b3 z) (sentM [] e) := by
 unfold spec_SentOf.f
 exact specSent_l e h.se h.ses e.length 0 [] (by omega) (by simp)
theorem implSent (h : SmallT v e r l) : Ev (fun k => impl_SentOf.f k c v e d0 d1 d2 d3 b0 r l b3 z) (sentM [] e) := by
 unfold impl_SentOf.f
 exact implSent_l e h.se h.ses e.length 0 [] (by omega) (by simp)
end
end Go.Proofs.Ythjbgnmnemblhaa.Pure
