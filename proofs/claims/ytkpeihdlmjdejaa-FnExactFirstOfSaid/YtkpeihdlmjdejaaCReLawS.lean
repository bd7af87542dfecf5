/- Plain laws of lists of patterns in the laws: copies, sizes, comparisons. -/
import Derived.Test.YtkpeihdlmjdejaaCP0
import Derived.Test.YtkpeihdlmjdejaaC5
import Derived.Test.YtkpeihdlmjdejaaC6
import Derived.Test.YtkpeihdlmjdejaaCReLaw
set_option linter.unusedVariables false
set_option linter.unusedSimpArgs false
namespace Go.Proofs.Ytkpeihdlmjdejaa.Pure
open Go.RowKit Go.Proofs.Ytkpeihdlmjdejaa.P Go.Proofs.YtkpeihdlmjdejaaW.PrintWords
theorem rdLL_eq (p : List (List LRE)) {i : Nat} (h : i < p.length) : rd_L9 p (i : Int) = p[i] := by
  unfold rd_L9
  rw [Int.toNat_natCast, List.getD_eq_getElem?_getD, List.getElem?_eq_getElem h]
  rfl
theorem rdLI_eq (p : List (List RE)) {i : Nat} (h : i < p.length) : rd_L8 p (i : Int) = p[i] := by
  unfold rd_L8
  rw [Int.toNat_natCast, List.getD_eq_getElem?_getD, List.getElem?_eq_getElem h]
  rfl
/-- Small patterns of a law. -/
structure SmallL (p : List LRE) : Prop where
  len : p.length ≤ 1048576
  sets : ∀ x ∈ p, x.f1.length ≤ 1048576
theorem toReSS_l (p : List (List LRE)) (hs : p.length ≤ 1048576) (hx : ∀ x ∈ p, SmallL x) : ∀ (d i : Nat) (q : List (List RE)), i + d = p.length → q.length = p.length → q.take i = (p.map (·.map reOf)).take i → Ev (fun k => laws_toReSS.l0 k p q (i : Int)) (p.map (·.map reOf))
  | 0, i, q, hd, hl, ht => by
    refine Ev.step (fun k => laws_toReSS.l0.eq_2 ..) (Ev.neg (by omega) (Ev.some' ?_))
    rw [List.take_of_length_le (by omega), List.take_of_length_le (by simp; omega)] at ht
    exact ht
  | d + 1, i, q, hd, hl, ht => by
    refine Ev.step (fun k => laws_toReSS.l0.eq_2 ..) (Ev.pos (by omega) (Ev.pos (by omega) ?_))
    rw [rdLL_eq p (show i < p.length by omega)]
    have h1 := hx _ (List.getElem_mem (show i < p.length by omega))
    refine Ev.bind (toReS _ h1.len h1.sets) (Ev.pos (by omega) ?_)
    rw [w64s (by omega), Int.toNat_natCast]
    refine toReSS_l p hs hx d (i + 1) _ (by omega) (by simpa using hl) ?_
    have := take_set_step (p.map (·.map reOf)) q i (by simp; omega) (by simpa using hl) ht
    rw [List.getElem_map] at this
    exact this
theorem toReSS (p : List (List LRE)) (hs : p.length ≤ 1048576) (hx : ∀ x ∈ p, SmallL x) : Ev (fun k => laws_toReSS.f k p) (p.map (·.map reOf)) := by
  unfold laws_toReSS.f
  exact Ev.pos (by omega) (Ev.pos (by omega) (toReSS_l p hs hx p.length 0 _ (by omega) (by simp) (by simp)))
theorem eqReSS_self (p : List (List RE)) (hs : p.length ≤ 1048576) (hp : ∀ x ∈ p, SmallR x) : Ev (fun k => laws_eqReSS.f k p p) true := by
  unfold laws_eqReSS.f
  refine Ev.pos rfl ?_
  have h := Ev.allLoop (g := fun k i => laws_eqReSS.l0 k p p (i : Int)) (p := fun _ => true) (n := p.length) (r := true)
    (Ev.step (fun k => laws_eqReSS.l0.eq_2 ..) (Ev.neg (by omega) (Ev.now _))) (fun i _ h => by simp at h)
    (fun i v hi _ h => by
      refine Ev.step (fun k => laws_eqReSS.l0.eq_2 ..) (Ev.pos (by omega) (Ev.pos (by omega) (Ev.pos (by omega) ?_)))
      rw [rdLI_eq p hi, w64s (by omega)]
      exact Ev.bind (eqReS_self _ (hp _ (List.getElem_mem hi))) (Ev.pos rfl h)) p.length 0 (by omega)
  have e : allFrom (fun _ => true) 0 p.length = true := (allFrom_iff _ _ _).2 (fun _ _ _ => rfl)
  rw [e] at h
  exact h
theorem szReSS_l (p : List (List LRE)) (hs : p.length ≤ 1000000000000) (hx : ∀ x ∈ p, x.length ≤ 1000000000000000 ∧ ∀ y ∈ x, y.f1.length ≤ 1000000000000000) : ∀ (d i : Nat) (a : Int), i + d = p.length → 0 ≤ a → a ≤ 1048576 → ∃ r, Ev (fun k => laws_szReSS.l0 k p a (i : Int)) r ∧ (r < 0 ∨ (0 ≤ r ∧ r ≤ a ∧ ∀ x ∈ p.drop i, SmallL x))
  | 0, i, a, hd, h0, h1 => by
    refine ⟨a, Ev.step (fun k => laws_szReSS.l0.eq_2 ..) (Ev.neg (by omega) (Ev.now _)), .inr ⟨h0, Int.le_refl _, fun x hm => ?_⟩⟩
    rw [List.drop_eq_nil_of_le (by omega)] at hm
    cases hm
  | d + 1, i, a, hd, h0, h1 => by
    have hxi := hx _ (List.getElem_mem (show i < p.length by omega))
    obtain ⟨r, hr, hc⟩ := szReS_cases (p[i]'(by omega)) a h0 h1 hxi.1 hxi.2
    by_cases hn : r < 0
    · refine ⟨-1, Ev.step (fun k => laws_szReSS.l0.eq_2 ..) (Ev.pos (by omega) (Ev.pos (by omega) ?_)), .inl (by omega)⟩
      rw [rdLL_eq p (show i < p.length by omega)]
      exact Ev.bind hr (Ev.pos hn (Ev.now _))
    · rcases hc with hc | ⟨g1, g2, g3, g4⟩
      · omega
      obtain ⟨s, hs2, h⟩ := szReSS_l p hs hx d (i + 1) r (by omega) (by omega) (by omega)
      refine ⟨s, Ev.step (fun k => laws_szReSS.l0.eq_2 ..) (Ev.pos (by omega) (Ev.pos (by omega) ?_)), ?_⟩
      · rw [rdLL_eq p (show i < p.length by omega)]
        refine Ev.bind hr (Ev.neg hn ?_)
        rw [w64s (by omega)]
        exact hs2
      · rcases h with h | ⟨h2, h3, h4⟩
        · exact .inl h
        · refine .inr ⟨h2, by omega, fun x hm => ?_⟩
          rw [drop_cons p (show i < p.length by omega)] at hm
          rcases List.mem_cons.1 hm with rfl | hm
          · exact ⟨g3, g4⟩
          · exact h4 x hm
theorem szReSS_cases (p : List (List LRE)) (a : Int) (ha0 : 0 ≤ a) (ha : a ≤ 1048576) (hs : p.length ≤ 1000000000000000) (hx : ∀ x ∈ p, x.length ≤ 1000000000000000 ∧ ∀ y ∈ x, y.f1.length ≤ 1000000000000000) : ∃ r, Ev (fun k => laws_szReSS.f k p a) r ∧ (r < 0 ∨ (0 ≤ r ∧ p.length ≤ 1048576 ∧ ∀ x ∈ p, SmallL x)) := by
  unfold laws_szReSS.f
  rw [w64 (by omega) (by omega)]
  by_cases h : a < (p.length : Int)
  · exact ⟨-1, Ev.pos (by omega) (Ev.now _), .inl (by omega)⟩
  · obtain ⟨r, hr, hh⟩ := szReSS_l p (by omega) hx p.length 0 (a - (p.length : Int)) (by omega) (by omega) (by omega)
    refine ⟨r, Ev.neg (by omega) hr, ?_⟩
    rcases hh with hh | ⟨h1, h2, h3⟩
    · exact .inl hh
    · exact .inr ⟨h1, by omega, fun x hm => h3 x (by simpa using hm)⟩
end Go.Proofs.Ytkpeihdlmjdejaa.Pure
