/- Plain laws of searching: where it fires. -/
import Derived.Test.YtkpeihdlmjdejaaCP0
import Derived.Test.YtkpeihdlmjdejaaC5
import Derived.Test.YtkpeihdlmjdejaaC6
import Derived.Test.YtkpeihdlmjdejaaCSearch
set_option linter.unusedVariables false
set_option linter.unusedSimpArgs false
namespace Go.Proofs.Ytkpeihdlmjdejaa.Pure
open Go.RowKit Go.Proofs.Ytkpeihdlmjdejaa.P Go.Proofs.YtkpeihdlmjdejaaW.PrintWords
/-- The first end of a match, from x on, so many tried. -/
def firesP (P : Nat → Nat → Bool) : Nat → Nat → Int × Bool
  | 0, _ => (0, false)
  | d + 1, x => if anyFrom (fun a => P a x) 0 (x + 1) = true then ((x : Int), true) else firesP P d (x + 1)
theorem fires_l1 {p : List RE} {l : List Int} (hl : l.length ≤ 1000) {x : Nat} (hx : x ≤ l.length) {v : Int × Bool} (hv : Ev (fun k => spec_l7Fires.l0 k (flatR (tree p) l) ((l.length + 1 : Nat) : Int) ((x + 1 : Nat) : Int)) v) :
    ∀ d a : Nat, a + d = x + 1 → Ev (fun k => spec_l7Fires.l1 k (flatR (tree p) l) ((l.length + 1 : Nat) : Int) (x : Int) (a : Int)) (if anyFrom (fun a => cellB (tree p) l a x) a d = true then ((x : Int), true) else v)
  | 0, a, hd => by
    refine Ev.step (fun k => spec_l7Fires.l1.eq_2 ..) (Ev.neg (by omega) ?_)
    rw [w64s (by omega)]
    exact hv
  | d + 1, a, hd => by
    have ih := fires_l1 (p := p) hl hx hv d (a + 1) (by omega)
    have hlt := flat_lt (n := l.length + 1) (a := a) (b := x) (by omega) (by omega)
    refine Ev.step (fun k => spec_l7Fires.l1.eq_2 ..) ?_
    rw [ixw (n := l.length + 1) (by omega) (show a ≤ l.length + 1 by omega) (show x ≤ l.length + 1 by omega), flatR_length, flatR_at (by omega) (by omega), w64s (by omega)]
    refine Ev.pos (by omega) (Ev.pos (by omega) (Ev.pos (by exact_mod_cast hlt) ?_))
    by_cases c : cellB (tree p) l a x = true
    · have e : anyFrom (fun a => cellB (tree p) l a x) a (d + 1) = true := by simp [anyFrom, c]
      rw [if_pos e]
      exact Ev.pos c (Ev.now _)
    · have e : anyFrom (fun a => cellB (tree p) l a x) a (d + 1) = anyFrom (fun a => cellB (tree p) l a x) (a + 1) d := by simp [anyFrom, c]
      rw [e]
      exact Ev.neg c ih
theorem fires_l0 {p : List RE} {l : List Int} (hl : l.length ≤ 1000) : ∀ d x : Nat, x + d = l.length + 1 → Ev (fun k => spec_l7Fires.l0 k (flatR (tree p) l) ((l.length + 1 : Nat) : Int) (x : Int)) (firesP (cellB (tree p) l) d x)
  | 0, x, hd => Ev.step (fun k => spec_l7Fires.l0.eq_2 ..) (Ev.neg (by omega) (Ev.now _))
  | d + 1, x, hd => by
    have ih := fires_l0 (p := p) hl d (x + 1) (by omega)
    exact Ev.step (fun k => spec_l7Fires.l0.eq_2 ..) (Ev.pos (by omega) (fires_l1 hl (by omega) ih (x + 1) 0 (by omega)))
def firesR (p : List RE) (l : List Int) : Int × Bool := if askedB p l then firesP (cellB (tree p) l) (l.length + 1) 0 else (0, false)
theorem specFiresAt (p : List RE) (hp : SmallR p) (l : List Int) (hl : l.length ≤ 1000000000) : Ev (fun k => spec_FiresAt.f k p l) (firesR p l) := by
  unfold spec_FiresAt.f firesR
  refine Ev.bind (specAsked p hp l hl) ?_
  cases h : askedB p l
  · exact Ev.neg (by simp) (Ev.now _)
  have ha := Asked.of h
  have h1 := ha.p1
  have h2 := ha.p2
  have h3 := ha.l2
  have hf : Ev (fun k => spec_l7Fires.f k p l) (firesP (cellB (tree p) l) (l.length + 1) 0) := by
    unfold spec_l7Fires.f
    have ew : wrap64 ((p.length : Int) - 1) = ((p.length - 1 : Nat) : Int) := by rw [w64 (by omega) (by omega)]; omega
    refine Ev.bind (specTable ha.ok hp (by omega)) ?_
    rw [ew, sOlds_length, last_table h1, w64s (by omega)]
    exact Ev.pos (by omega) (Ev.pos (by omega) (fires_l0 (p := p) (by omega) (l.length + 1) 0 (by omega)))
  exact Ev.pos rfl (Ev.bind hf (Ev.now _))
theorem findP_iff (P : Nat → Nat → Bool) (b : Nat) : ∀ d x : Nat, (findP P b d x).2.2 = true ↔ ∃ a y, x ≤ a ∧ a < x + d ∧ a ≤ y ∧ y ≤ b ∧ P a y = true
  | 0, x => by
    simp only [findP]
    exact ⟨fun h => (by cases h), fun ⟨a, y, h1, h2, _⟩ => (by omega)⟩
  | d + 1, x => by
    simp only [findP]
    cases hq : lastF (P x) x (b + 1 - x) with
    | some y =>
      obtain ⟨h1, h2, h3, _⟩ := lastF_some hq
      exact ⟨fun _ => ⟨x, y, by omega, by omega, h1, by omega, h3⟩, fun _ => rfl⟩
    | none =>
      have hn := lastF_none.1 hq
      show (findP P b d (x + 1)).2.2 = true ↔ _
      rw [findP_iff P b d (x + 1)]
      constructor
      · rintro ⟨a, y, h1, h2, h3, h4, h5⟩
        exact ⟨a, y, by omega, by omega, h3, h4, h5⟩
      · rintro ⟨a, y, h1, h2, h3, h4, h5⟩
        by_cases e : a = x
        · subst e
          rw [hn y h3 (by omega)] at h5
          cases h5
        · exact ⟨a, y, by omega, by omega, h3, h4, h5⟩
theorem implFires_l {p : List RE} {l : List Int} (h1 : 1 ≤ p.length) (h2 : p.length ≤ 1000) (hl : l.length ≤ 1000) : ∀ d x : Nat, x + d = l.length + 1 → (∀ a y, a ≤ y → y < x → cellB (tree p) l a y = false) → ∃ K, ∀ kk k, K ≤ kk → K ≤ k → impl_FiresAt.l0 kk p (olds p l p.length) l.length k (x : Int) = some (firesP (cellB (tree p) l) d x)
  | 0, x, hd, hk => ⟨1, fun kk k _ hk => by
    obtain ⟨k, rfl⟩ : ∃ m, k = m + 1 := ⟨k - 1, by omega⟩
    rw [impl_FiresAt.l0, if_neg (by omega)]
    rfl⟩
  | d + 1, x, hd, hk => by
    obtain ⟨K1, hK1⟩ := find_ev (p := p) (a := 0) (b := x) h1 h2 hl (by omega) (by omega)
    have hiff := findP_iff (cellB (tree p) l) x (x + 1 - 0) 0
    by_cases c : anyFrom (fun a => cellB (tree p) l a x) 0 (x + 1) = true
    · obtain ⟨a, ha1, ha2, ha3⟩ := (anyFrom_iff _ _ _).1 c
      have ht := hiff.2 ⟨a, x, by omega, by omega, by omega, by omega, ha3⟩
      refine ⟨K1 + 1, fun kk k hkk hk => ?_⟩
      obtain ⟨k, rfl⟩ : ∃ m, k = m + 1 := ⟨k - 1, by omega⟩
      have e1 := hK1 kk (by omega)
      simp only at e1
      rw [impl_FiresAt.l0, if_pos (by omega)]
      rw [show ((0 : Nat) : Int) = 0 from rfl] at e1
      rw [e1, Option.bind_some, if_pos ht]
      simp only [firesP]
      rw [if_pos c]
    · have hno : ∀ a, a ≤ x → cellB (tree p) l a x = false := fun a ha => by
        cases hq : cellB (tree p) l a x
        · rfl
        · exact absurd ((anyFrom_iff _ _ _).2 ⟨a, by omega, by omega, hq⟩) c
      obtain ⟨K2, hK2⟩ := implFires_l (p := p) h1 h2 hl d (x + 1) (by omega) (fun a y h3 h4 => by
        by_cases e : y = x
        · rw [e]; exact hno a (by omega)
        · exact hk a y h3 (by omega))
      have ht : ¬ (findP (cellB (tree p) l) x (x + 1 - 0) 0).2.2 = true := fun h => by
        obtain ⟨a, y, g1, g2, g3, g4, g5⟩ := hiff.1 h
        by_cases e : y = x
        · rw [e, hno a (by omega)] at g5; cases g5
        · rw [hk a y g3 (by omega)] at g5; cases g5
      refine ⟨max K1 K2 + 1, fun kk k hkk hk => ?_⟩
      obtain ⟨k, rfl⟩ : ∃ m, k = m + 1 := ⟨k - 1, by omega⟩
      have e1 := hK1 kk (by omega)
      have e2 := hK2 kk k (by omega) (by omega)
      simp only at e1
      rw [show ((0 : Nat) : Int) = 0 from rfl] at e1
      rw [show (((x + 1 : Nat)) : Int) = (x : Int) + 1 by omega] at e2
      rw [impl_FiresAt.l0, if_pos (by omega), e1, Option.bind_some, if_neg ht, e2]
      simp only [firesP]
      rw [if_neg c]
theorem implFiresAt (p : List RE) (hp : SmallR p) (l : List Int) : Ev (fun k => impl_FiresAt.f k p l) (firesR p l) := by
  unfold impl_FiresAt.f firesR
  refine Ev.bind (implAsked p hp l) ?_
  cases h : askedB p l
  · exact Ev.neg (by simp) (Ev.now _)
  have ha := Asked.of h
  have h2 := ha.p2
  have h3 := ha.l2
  refine Ev.pos rfl (Ev.pos (by omega) (Ev.bind (implMatch ha.ok hp (by omega) (show l.length ≤ 1000 by omega)) ?_))
  obtain ⟨K, hK⟩ := implFires_l (p := p) (l := l) ha.p1 (by omega) (by omega) (l.length + 1) 0 (by omega) (fun a y _ hy => by omega)
  exact ⟨K, fun k hk => hK k k hk hk⟩
end Go.Proofs.Ytkpeihdlmjdejaa.Pure
