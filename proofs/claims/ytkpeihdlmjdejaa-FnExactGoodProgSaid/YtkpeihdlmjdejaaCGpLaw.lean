/- Plain laws of programs in the laws: copies, sizes, comparisons. -/
import Derived.Test.YtkpeihdlmjdejaaCP0
import Derived.Test.YtkpeihdlmjdejaaC2
import Derived.Test.YtkpeihdlmjdejaaC3
import Derived.Test.YtkpeihdlmjdejaaC4
import Derived.Test.YtkpeihdlmjdejaaC6
import Derived.Test.YtkpeihdlmjdejaaC7
import Derived.Test.YtkpeihdlmjdejaaCGpGood
import Derived.Test.YtkpeihdlmjdejaaCReLaw
set_option linter.unusedVariables false
set_option linter.unusedSimpArgs false
namespace Go.Proofs.Ytkpeihdlmjdejaa.Pure
open Go.RowKit Go.Proofs.Ytkpeihdlmjdejaa.P Go.Proofs.YtkpeihdlmjdejaaW.PrintWords
abbrev LCL := S176
abbrev LINS := S112
def clOf (x : LCL) : CL := ⟨x.f0, x.f1.map reOf⟩
def insOf (x : LINS) : INS := ⟨x.f0, x.f1, x.f2, x.f3, x.f4, x.f5.map clOf, x.f6⟩
theorem toLoop {α β : Type} (p : List α) (h : α → β) (g : Nat → List β → Nat → Option (List β)) (h0 : ∀ q, Ev (fun k => g k q p.length) q)
  (hs : ∀ (i : Nat) (q r : List β) (hi : i < p.length), q.length = p.length → Ev (fun k => g k (q.set i (h (p[i]'hi))) (i + 1)) r → Ev (fun k => g k q i) r) :
  ∀ (d i : Nat) (q : List β), i + d = p.length → q.length = p.length → q.take i = (p.map h).take i → Ev (fun k => g k q i) (p.map h)
 | 0, i, q, hd, hl, ht => by
  have e : i = p.length := by omega
  subst e
  rw [List.take_of_length_le (by omega), List.take_of_length_le (by simp)] at ht
  rw [← ht]
  exact h0 q
 | d + 1, i, q, hd, hl, ht => by
  refine hs i q _ (by omega) hl (toLoop p h g h0 hs d (i + 1) _ (by omega) (by simpa using hl) ?_)
  have := take_set_step (p.map h) q i (by simp; omega) (by simpa using hl) ht
  rw [List.getElem_map] at this
  exact this
theorem szLoop {α : Type} (p : List α) (P : α → Prop) (g : Nat → Int → Nat → Option Int) (h0 : ∀ a, Ev (fun k => g k a p.length) a)
  (hs : ∀ (i : Nat) (a : Int) (hi : i < p.length), 0 ≤ a → a ≤ 1048576 → Ev (fun k => g k a i) (-1) ∨ ∃ a', 0 ≤ a' ∧ a' ≤ a ∧ P (p[i]'hi) ∧ ∀ r, Ev (fun k => g k a' (i + 1)) r → Ev (fun k => g k a i) r) :
  ∀ (d i : Nat) (a : Int), i + d = p.length → 0 ≤ a → a ≤ 1048576 → ∃ r, Ev (fun k => g k a i) r ∧ (r < 0 ∨ (0 ≤ r ∧ r ≤ a ∧ ∀ x ∈ p.drop i, P x))
 | 0, i, a, hd, ha, hb => by
  have e : i = p.length := by omega
  subst e
  exact ⟨a, h0 a, .inr ⟨ha, Int.le_refl _, fun x hx => by simp at hx⟩⟩
 | d + 1, i, a, hd, ha, hb => by
  rcases hs i a (by omega) ha hb with h | ⟨a', h1, h2, h3, h4⟩
  ·exact ⟨-1, h, .inl (by omega)⟩
  ·obtain ⟨r, hr, hc⟩ := szLoop p P g h0 hs d (i + 1) a' (by omega) h1 (by omega)
   refine ⟨r, h4 r hr, ?_⟩
   rcases hc with hc | ⟨c1, c2, c3⟩
   ·exact .inl hc
   ·refine .inr ⟨c1, by omega, fun x hx => ?_⟩
    rw [drop_cons p (show i < p.length by omega)] at hx
    rcases List.mem_cons.1 hx with rfl | hx
    ·exact h3
    ·exact c3 x hx
theorem rdLCL_eq (p : List LCL) {i : Nat} (h : i < p.length) : rd_T176 p (i : Int) = p[i] := by
 unfold rd_T176
 rw [Int.toNat_natCast, List.getD_eq_getElem?_getD, List.getElem?_eq_getElem h]
 rfl
theorem rdLINS_eq (p : List LINS) {i : Nat} (h : i < p.length) : rd_T112 p (i : Int) = p[i] := by
 unfold rd_T112
 rw [Int.toNat_natCast, List.getD_eq_getElem?_getD, List.getElem?_eq_getElem h]
 rfl
structure SmLC (x : LCL) : Prop where
 len : x.f1.length ≤ 1048576
 pats : ∀ y ∈ x.f1, y.f1.length ≤ 1048576
structure SmLI (x : LINS) : Prop where
 text : x.f4.length ≤ 1048576
 len : x.f5.length ≤ 1048576
 cl : ∀ c ∈ x.f5, SmLC c
 go_ : x.f6.length ≤ 1048576
structure WdC (x : LCL) : Prop where
 len : x.f1.length ≤ 1000000000000000
 pats : ∀ y ∈ x.f1, y.f1.length ≤ 1000000000000000
structure WdI (x : LINS) : Prop where
 text : x.f4.length ≤ 1000000000000000
 len : x.f5.length ≤ 1000000000000000
 cl : ∀ c ∈ x.f5, WdC c
 go_ : x.f6.length ≤ 1000000000000000
theorem toClauseS (p : List LCL) (hs : p.length ≤ 1048576) (hx : ∀ x ∈ p, SmLC x) : Ev (fun k => laws_toClauseS.f k p) (p.map clOf) := by
 unfold laws_toClauseS.f
 refine Ev.pos (by omega) (Ev.pos (by omega) ?_)
 refine toLoop p clOf (fun k q i => laws_toClauseS.l0 k p q (i : Int)) (fun q => Ev.step (fun k => laws_toClauseS.l0.eq_2 ..) (Ev.neg (by omega) (Ev.now _))) (fun i q r hi hl hr => ?_) p.length 0 _ (by omega) (by simp) (by simp)
 refine Ev.step (fun k => laws_toClauseS.l0.eq_2 ..) (Ev.pos (by omega) (Ev.pos (by omega) ?_))
 rw [rdLCL_eq p hi]
 have hc := hx _ (List.getElem_mem hi)
 have h1 : Ev (fun k => laws_toClause.f k (p[i]'hi).f0 (p[i]'hi).f1) ((p[i]'hi).f0, (p[i]'hi).f1.map reOf) := by
  unfold laws_toClause.f
  exact Ev.bind (toReS _ hc.len hc.pats) (Ev.now _)
 refine Ev.bind h1 (Ev.pos (by omega) ?_)
 rw [w64s (by omega), Int.toNat_natCast]
 exact hr
theorem toInsS (p : List LINS) (hs : p.length ≤ 1048576) (hx : ∀ x ∈ p, SmLI x) : Ev (fun k => laws_toInsS.f k p) (p.map insOf) := by
 unfold laws_toInsS.f
 refine Ev.pos (by omega) (Ev.pos (by omega) ?_)
 refine toLoop p insOf (fun k q i => laws_toInsS.l0 k p q (i : Int)) (fun q => Ev.step (fun k => laws_toInsS.l0.eq_2 ..) (Ev.neg (by omega) (Ev.now _))) (fun i q r hi hl hr => ?_) p.length 0 _ (by omega) (by simp) (by simp)
 refine Ev.step (fun k => laws_toInsS.l0.eq_2 ..) (Ev.pos (by omega) (Ev.pos (by omega) ?_))
 rw [rdLINS_eq p hi]
 have hc := hx _ (List.getElem_mem hi)
 have h1 : Ev (fun k => laws_toIns.f k (p[i]'hi).f0 (p[i]'hi).f1 (p[i]'hi).f2 (p[i]'hi).f3 (p[i]'hi).f4 (p[i]'hi).f5 (p[i]'hi).f6) ((p[i]'hi).f0, (p[i]'hi).f1, (p[i]'hi).f2, (p[i]'hi).f3, (p[i]'hi).f4, (p[i]'hi).f5.map clOf, (p[i]'hi).f6) := by
  have a1 := hc.text
  have a2 := hc.go_
  unfold laws_toIns.f
  exact Ev.bind (toIntS _ (by omega)) (Ev.bind (toClauseS _ hc.len hc.cl) (Ev.bind (toIntS _ (by omega)) (Ev.now _)))
 refine Ev.bind h1 (Ev.pos (by omega) ?_)
 rw [w64s (by omega), Int.toNat_natCast]
 exact hr
theorem eqClauseS_self (p : List CL) (hp : SmallC p) : Ev (fun k => laws_eqClauseS.f k p p) true := by
 have hlen := hp.len
 unfold laws_eqClauseS.f
 refine Ev.pos rfl ?_
 have h := Ev.allLoop (g := fun k i => laws_eqClauseS.l0 k p p (i : Int)) (p := fun _ => true) (n := p.length) (r := true)
  (Ev.step (fun k => laws_eqClauseS.l0.eq_2 ..) (Ev.neg (by omega) (Ev.now _))) (fun i _ h => by simp at h)
  (fun i v hi _ h => by
   refine Ev.step (fun k => laws_eqClauseS.l0.eq_2 ..) (Ev.pos (by omega) (Ev.pos (by omega) (Ev.pos (by omega) ?_)))
   rw [rdCL_eq p hi, w64s (by omega)]
   have hs := hp.pats _ (List.getElem_mem hi)
   have h1 : Ev (fun k => laws_eqClause.f k p[i].f0 p[i].f1 p[i].f0 p[i].f1) true := by
    unfold laws_eqClause.f
    exact Ev.pos rfl (Ev.bind (eqReS_self _ hs) (Ev.pos rfl (Ev.now _)))
   exact Ev.bind h1 (Ev.pos rfl h)) p.length 0 (by omega)
 have e : allFrom (fun _ => true) 0 p.length = true := (allFrom_iff _ _ _).2 (fun _ _ _ => rfl)
 rw [e] at h
 exact h
theorem eqInsS_self (p : List INS) (hp : SmallP p) : Ev (fun k => laws_eqInsS.f k p p) true := by
 have hlen := hp.len
 unfold laws_eqInsS.f
 refine Ev.pos rfl ?_
 have h := Ev.allLoop (g := fun k i => laws_eqInsS.l0 k p p (i : Int)) (p := fun _ => true) (n := p.length) (r := true)
  (Ev.step (fun k => laws_eqInsS.l0.eq_2 ..) (Ev.neg (by omega) (Ev.now _))) (fun i _ h => by simp at h)
  (fun i v hi _ h => by
   refine Ev.step (fun k => laws_eqInsS.l0.eq_2 ..) (Ev.pos (by omega) (Ev.pos (by omega) (Ev.pos (by omega) ?_)))
   rw [rdINS_eq p hi, w64s (by omega)]
   have hs := hp.ins _ (List.getElem_mem hi)
   have a1 := hs.text
   have a2 := hs.go_
   have h1 : Ev (fun k => laws_eqIns.f k p[i].f0 p[i].f1 p[i].f2 p[i].f3 p[i].f4 p[i].f5 p[i].f6 p[i].f0 p[i].f1 p[i].f2 p[i].f3 p[i].f4 p[i].f5 p[i].f6) true := by
    unfold laws_eqIns.f
    exact Ev.pos rfl (Ev.pos rfl (Ev.pos rfl (Ev.pos rfl (Ev.bind (eqIntS_self _ (by omega)) (Ev.pos rfl (Ev.bind (eqClauseS_self _ hs.cl) (Ev.pos rfl (Ev.bind (eqIntS_self _ (by omega)) (Ev.pos rfl (Ev.now _))))))))))
   exact Ev.bind h1 (Ev.pos rfl h)) p.length 0 (by omega)
 have e : allFrom (fun _ => true) 0 p.length = true := (allFrom_iff _ _ _).2 (fun _ _ _ => rfl)
 rw [e] at h
 exact h
theorem szClauseS_cases (p : List LCL) (a : Int) (ha0 : 0 ≤ a) (ha : a ≤ 1048576) (hs : p.length ≤ 1000000000000000) (hx : ∀ x ∈ p, WdC x) : ∃ r, Ev (fun k => laws_szClauseS.f k p a) r ∧ (r < 0 ∨ (0 ≤ r ∧ r ≤ a ∧ p.length ≤ 1048576 ∧ ∀ x ∈ p, SmLC x)) := by
 unfold laws_szClauseS.f
 rw [w64 (by omega) (by omega)]
 by_cases h : a < (p.length : Int)
 ·exact ⟨-1, Ev.pos (by omega) (Ev.now _), .inl (by omega)⟩
 obtain ⟨r, hr, hh⟩ := szLoop p SmLC (fun k a i => laws_szClauseS.l0 k p a (i : Int)) (fun a => Ev.step (fun k => laws_szClauseS.l0.eq_2 ..) (Ev.neg (by omega) (Ev.now _))) (fun i a hi h0 h1 => by
  have hw := hx _ (List.getElem_mem hi)
  obtain ⟨q, hq, hc⟩ := szReS_cases (p[i]'hi).f1 a h0 h1 hw.len hw.pats
  by_cases hn : q < 0
  ·refine .inl (Ev.step (fun k => laws_szClauseS.l0.eq_2 ..) (Ev.pos (by omega) (Ev.pos (by omega) ?_)))
   rw [rdLCL_eq p hi]
   refine Ev.bind (a := -1) ?_ (Ev.pos (by omega) (Ev.now _))
   unfold laws_szClause.f
   exact Ev.bind hq (Ev.pos hn (Ev.now _))
  ·rcases hc with hc | ⟨c1, c2, c3, c4⟩
   ·omega
   refine .inr ⟨q, c1, c2, ⟨c3, c4⟩, fun r hr => Ev.step (fun k => laws_szClauseS.l0.eq_2 ..) (Ev.pos (by omega) (Ev.pos (by omega) ?_))⟩
   rw [rdLCL_eq p hi]
   refine Ev.bind (a := q) ?_ (Ev.neg (by omega) ?_)
   ·unfold laws_szClause.f
    exact Ev.bind hq (Ev.neg hn (Ev.now _))
   ·rw [w64s (by omega)]
    exact hr) p.length 0 (a - (p.length : Int)) (by omega) (by omega) (by omega)
 refine ⟨r, Ev.neg (by omega) hr, ?_⟩
 rcases hh with hh | ⟨h1, h2, h3⟩
 ·exact .inl hh
 ·exact .inr ⟨h1, by omega, by omega, fun x hm => h3 x (by simpa using hm)⟩
theorem szInsS_cases (p : List LINS) (a : Int) (ha0 : 0 ≤ a) (ha : a ≤ 1048576) (hs : p.length ≤ 1000000000000000) (hx : ∀ x ∈ p, WdI x) : ∃ r, Ev (fun k => laws_szInsS.f k p a) r ∧ (r < 0 ∨ (0 ≤ r ∧ r ≤ a ∧ p.length ≤ 1048576 ∧ ∀ x ∈ p, SmLI x)) := by
 unfold laws_szInsS.f
 rw [w64 (by omega) (by omega)]
 by_cases h : a < (p.length : Int)
 ·exact ⟨-1, Ev.pos (by omega) (Ev.now _), .inl (by omega)⟩
 obtain ⟨r, hr, hh⟩ := szLoop p SmLI (fun k a i => laws_szInsS.l0 k p a (i : Int)) (fun a => Ev.step (fun k => laws_szInsS.l0.eq_2 ..) (Ev.neg (by omega) (Ev.now _))) (fun i a hi h0 h1 => by
  have hw := hx _ (List.getElem_mem hi)
  have key : (Ev (fun k => laws_szIns.f k (p[i]'hi).f0 (p[i]'hi).f1 (p[i]'hi).f2 (p[i]'hi).f3 (p[i]'hi).f4 (p[i]'hi).f5 (p[i]'hi).f6 a) (-1)) ∨ ∃ q, 0 ≤ q ∧ q ≤ a ∧ SmLI (p[i]'hi) ∧ Ev (fun k => laws_szIns.f k (p[i]'hi).f0 (p[i]'hi).f1 (p[i]'hi).f2 (p[i]'hi).f3 (p[i]'hi).f4 (p[i]'hi).f5 (p[i]'hi).f6 a) q := by
   generalize p[i]'hi = x at hw
   unfold laws_szIns.f
   have g1 := szIntS_re x.f4 a hw.text h0 (by omega)
   by_cases b1 : a < (x.f4.length : Int)
   ·rw [if_pos b1] at g1
    exact .inl (Ev.bind0 g1 (Ev.pos (by omega) (Ev.now _)))
   rw [if_neg b1] at g1
   obtain ⟨q, hq, hc⟩ := szClauseS_cases x.f5 (a - (x.f4.length : Int)) (by omega) (by omega) hw.len hw.cl
   by_cases hn : q < 0
   ·exact .inl (Ev.bind0 g1 (Ev.neg (by omega) (Ev.bind hq (Ev.pos hn (Ev.now _)))))
   rcases hc with hc | ⟨c1, c2, c3, c4⟩
   ·omega
   have g3 := szIntS_re x.f6 q hw.go_ c1 (by omega)
   by_cases b3 : q < (x.f6.length : Int)
   ·rw [if_pos b3] at g3
    exact .inl (Ev.bind0 g1 (Ev.neg (by omega) (Ev.bind hq (Ev.neg hn (Ev.bind0 g3 (Ev.pos (by omega) (Ev.now _)))))))
   rw [if_neg b3] at g3
   exact .inr ⟨q - (x.f6.length : Int), by omega, by omega, ⟨by omega, c3, c4, by omega⟩, Ev.bind0 g1 (Ev.neg (by omega) (Ev.bind hq (Ev.neg hn (Ev.bind0 g3 (Ev.neg (by omega) (Ev.now _))))))⟩
  rcases key with hk | ⟨q, q0, q1, hsm, hk⟩
  ·refine .inl (Ev.step (fun k => laws_szInsS.l0.eq_2 ..) (Ev.pos (by omega) (Ev.pos (by omega) ?_)))
   rw [rdLINS_eq p hi]
   exact Ev.bind hk (Ev.pos (by omega) (Ev.now _))
  ·refine .inr ⟨q, q0, q1, hsm, fun r hr => Ev.step (fun k => laws_szInsS.l0.eq_2 ..) (Ev.pos (by omega) (Ev.pos (by omega) ?_))⟩
   rw [rdLINS_eq p hi]
   refine Ev.bind hk (Ev.neg (by omega) ?_)
   rw [w64s (by omega)]
   exact hr) p.length 0 (a - (p.length : Int)) (by omega) (by omega) (by omega)
 refine ⟨r, Ev.neg (by omega) hr, ?_⟩
 rcases hh with hh | ⟨h1, h2, h3⟩
 ·exact .inl hh
 ·exact .inr ⟨h1, by omega, by omega, fun x hm => h3 x (by simpa using hm)⟩
theorem smallC_of {p : List LCL} (h1 : p.length ≤ 1048576) (h2 : ∀ x ∈ p, SmLC x) : SmallC (p.map clOf) := ⟨by simpa using h1, fun x hx => by
 obtain ⟨y, hy, rfl⟩ := List.mem_map.1 hx
 exact smallR_of (h2 y hy).len (h2 y hy).pats⟩
theorem smallP_of {p : List LINS} (h1 : p.length ≤ 1048576) (h2 : ∀ x ∈ p, SmLI x) : SmallP (p.map insOf) := ⟨by simpa using h1, fun x hx => by
 obtain ⟨y, hy, rfl⟩ := List.mem_map.1 hx
 exact ⟨(h2 y hy).text, smallC_of (h2 y hy).len (h2 y hy).cl, (h2 y hy).go_⟩⟩
end Go.Proofs.Ytkpeihdlmjdejaa.Pure
