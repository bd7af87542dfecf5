/- Plain laws of searching: all hits, from the left. -/
import Derived.Test.YtkpeihdlmjdejaaCP0
import Derived.Test.YtkpeihdlmjdejaaC5
import Derived.Test.YtkpeihdlmjdejaaCSearch
import Derived.Test.YtkpeihdlmjdejaaCMarkH
set_option linter.unusedVariables false
set_option linter.unusedSimpArgs false
namespace Go.Proofs.Ytkpeihdlmjdejaa.Pure
open Go.RowKit Go.Proofs.Ytkpeihdlmjdejaa.P Go.Proofs.YtkpeihdlmjdejaaW.PrintWords
theorem seg_from (l : List Int) (x a b : Nat) : seg (l.drop x) a b = seg l (a + x) (b + x) := by
  unfold seg
  rw [List.drop_take, List.drop_take, List.drop_drop, show x + a = a + x by omega, show b + x - (a + x) = b - a by omega]
theorem cellB_drop (t : T) (l : List Int) (x a b : Nat) : cellB t (l.drop x) a b = cellB t l (a + x) (b + x) := by
  unfold cellB
  rw [seg_from, decide_eq_decide.2 (show a ≤ b ↔ a + x ≤ b + x by omega)]
theorem lastF_shift (P Q : Nat → Bool) (x lo : Nat) (h : ∀ y, P y = Q (y + x)) : ∀ d, lastF P lo d = (lastF Q (lo + x) d).map (· - x)
  | 0 => rfl
  | d + 1 => by
    simp only [lastF]
    rw [h, lastF_shift P Q x lo h d, show lo + d + x = lo + x + d by omega]
    split
    · simp only [Option.map_some]
      congr 1
      omega
    · rfl
theorem findP_cases (P : Nat → Nat → Bool) (b : Nat) : ∀ d x, x + d = b + 1 → findP P b d x = (0, 0, false) ∨ ∃ u v : Nat, findP P b d x = ((u : Int), (v : Int), true) ∧ x ≤ u ∧ u ≤ v ∧ v ≤ b
  | 0, x, hd => .inl rfl
  | d + 1, x, hd => by
    simp only [findP]
    cases h : lastF (P x) x (b + 1 - x) with
    | some y =>
      obtain ⟨h1, h2, _⟩ := lastF_some h
      exact .inr ⟨x, y, rfl, by omega, h1, by omega⟩
    | none =>
      rcases findP_cases P b d (x + 1) (by omega) with h | ⟨u, v, h, h1, h2, h3⟩
      · exact .inl h
      · exact .inr ⟨u, v, h, by omega, h2, h3⟩
def shiftH (x : Nat) (m : Int × Int × Bool) : Int × Int × Bool := if m.2.2 = true then (m.1 - x, m.2.1 - x, true) else (0, 0, false)
theorem findP_shift (P Q : Nat → Nat → Bool) (x n : Nat) (hx : x ≤ n) (h : ∀ a b, P a b = Q (a + x) (b + x)) : ∀ d y, y + d = n - x + 1 → findP P (n - x) d y = shiftH x (findP Q n d (y + x))
  | 0, y, hd => rfl
  | d + 1, y, hd => by
    simp only [findP]
    rw [lastF_shift (P y) (Q (y + x)) x y (h y), show n - x + 1 - y = n + 1 - (y + x) by omega, findP_shift P Q x n hx h d (y + 1) (by omega), show y + 1 + x = y + x + 1 by omega]
    cases hl : lastF (Q (y + x)) (y + x) (n + 1 - (y + x)) with
    | none => rfl
    | some z =>
      obtain ⟨h1, _, _⟩ := lastF_some hl
      simp only [Option.map_some, shiftH]
      rw [if_pos trivial]
      congr 1
      · omega
      · congr 1
        omega
theorem findR_drop (p : List RE) (l : List Int) (x : Nat) (hx : x ≤ l.length) : findR p (l.drop x) = shiftH x (findP (cellB (tree p) l) l.length (l.length + 1 - x) x) := by
  unfold findR
  rw [List.length_drop]
  have := findP_shift (cellB (tree p) (l.drop x)) (cellB (tree p) l) x l.length hx (fun a b => cellB_drop (tree p) l x a b) (l.length - x + 1) 0 (by omega)
  rw [this, Nat.zero_add, show l.length - x + 1 = l.length + 1 - x by omega]
/-- All hits from x on, the first of them number c. -/
def hitsF (F : Nat → Nat → Bool) (n : Nat) : Nat → Nat → Nat → List HIT
  | 0, _, _ => []
  | d + 1, x, c => if (findP F n (n + 1 - x) x).2.2 = true then ⟨(c : Int), (findP F n (n + 1 - x) x).1, (findP F n (n + 1 - x) x).2.1⟩ :: hitsF F n d (if (findP F n (n + 1 - x) x).1 = (findP F n (n + 1 - x) x).2.1 then (findP F n (n + 1 - x) x).2.1.toNat + 1 else (findP F n (n + 1 - x) x).2.1.toNat) (c + 1) else []
theorem hitsF_end (F : Nat → Nat → Bool) (n : Nat) : ∀ d c, hitsF F n d (n + 1) c = []
  | 0, _ => rfl
  | d + 1, c => by
    simp only [hitsF]
    rw [show n + 1 - (n + 1) = 0 by omega]
    rfl
theorem hitsF_length (F : Nat → Nat → Bool) (n : Nat) : ∀ d x c, (hitsF F n d x c).length ≤ d
  | 0, _, _ => Nat.le_refl _
  | d + 1, x, c => by
    simp only [hitsF]
    split
    · simp only [List.length_cons]
      exact Nat.succ_le_succ (hitsF_length F n d _ _)
    · simp
theorem implAll_l {p : List RE} {l : List Int} (h1 : 1 ≤ p.length) (h2 : p.length ≤ 1000) (hl : l.length ≤ 1000) : ∀ (d x : Nat) (out : List HIT), l.length + 1 ≤ x + d → x ≤ l.length + 1 → out.length + d ≤ 10000 → Ev (fun k => impl_findAll.l0 p (olds p l p.length) l.length k out (x : Int)) (out ++ hitsF (cellB (tree p) l) l.length d x out.length)
  | 0, x, out, hd, hx, ho => by
    have hf := find_ev (p := p) (l := l) h1 h2 hl (a := x) (b := l.length) (Nat.le_refl _) hx
    rw [show l.length + 1 - x = 0 by omega] at hf
    refine Ev.step (fun k => impl_findAll.l0.eq_2 ..) (Ev.bind hf (Ev.neg (by simp [findP]) (Ev.some' ?_)))
    simp [hitsF]
  | d + 1, x, out, hd, hx, ho => by
    have hf := find_ev (p := p) (l := l) h1 h2 hl (a := x) (b := l.length) (Nat.le_refl _) hx
    refine Ev.step (fun k => impl_findAll.l0.eq_2 ..) (Ev.bind hf ?_)
    simp only [hitsF]
    rcases findP_cases (cellB (tree p) l) l.length (l.length + 1 - x) x (by omega) with h | ⟨u, v, h, g1, g2, g3⟩
    · rw [h]
      refine Ev.neg (by simp) (Ev.some' ?_)
      simp
    · rw [h]
      refine Ev.pos rfl (Ev.pos (by omega) ?_)
      rw [if_pos rfl]
      by_cases c : (u : Int) = (v : Int)
      · have ih := implAll_l h1 h2 hl d (v + 1) (out ++ [⟨(out.length : Int), u, v⟩]) (by omega) (by omega) (by simp; omega)
        refine Ev.pos c ?_
        simp only [if_pos c, Int.toNat_natCast]
        rw [w64s (by omega)]
        rw [List.append_assoc, List.length_append] at ih
        exact ih
      · have ih := implAll_l h1 h2 hl d v (out ++ [⟨(out.length : Int), u, v⟩]) (by omega) (by omega) (by simp; omega)
        refine Ev.neg c ?_
        simp only [if_neg c, Int.toNat_natCast]
        rw [List.append_assoc, List.length_append] at ih
        exact ih
theorem specAll_l {p : List RE} (h : Ok p) (hp : SmallR p) {l : List Int} (h1 : 1 ≤ p.length) (hl : l.length ≤ 1000) : ∀ (d x : Nat) (out : List HIT), l.length + 1 ≤ x + d → x ≤ l.length + 1 → out.length + d ≤ 10000 → Ev (fun k => spec_FindAll.l0 k p l out (x : Int)) (out ++ hitsF (cellB (tree p) l) l.length d x out.length, true)
  | 0, x, out, hd, hx, ho => by
    refine Ev.step (fun k => spec_FindAll.l0.eq_2 ..) (Ev.neg (by omega) (Ev.some' ?_))
    simp [hitsF]
  | d + 1, x, out, hd, hx, ho => by
    by_cases hxl : x ≤ l.length
    case neg =>
      have : x = l.length + 1 := by omega
      subst this
      rw [hitsF_end, List.append_nil]
      exact Ev.step (fun k => spec_FindAll.l0.eq_2 ..) (Ev.neg (by omega) (Ev.now _))
    have hf := specFind (l := l.drop x) h hp h1 (by rw [List.length_drop]; omega)
    refine Ev.step (fun k => spec_FindAll.l0.eq_2 ..) (Ev.pos (by omega) (Ev.pos (by omega) (Ev.bind hf ?_)))
    rw [findR_drop p l x hxl]
    simp only [hitsF]
    rcases findP_cases (cellB (tree p) l) l.length (l.length + 1 - x) x (by omega) with h0 | ⟨u, v, h0, g1, g2, g3⟩
    · rw [h0]
      refine Ev.neg (by simp [shiftH]) (Ev.some' ?_)
      simp
    · rw [h0]
      have hs : shiftH x ((u : Int), (v : Int), true) = ((u : Int) - x, (v : Int) - x, true) := rfl
      rw [hs]
      have e1 : wrap64 ((x : Int) + ((u : Int) - x)) = (u : Int) := by rw [w64 (by omega) (by omega)]; omega
      have e2 : wrap64 ((x : Int) + ((v : Int) - x)) = (v : Int) := by rw [w64 (by omega) (by omega)]; omega
      refine Ev.pos rfl (Ev.pos (by omega) (Ev.bind0 rfl ?_))
      simp only [e1, e2]
      rw [if_pos trivial]
      by_cases c : (u : Int) = (v : Int)
      · have ih := specAll_l h hp h1 hl d (v + 1) (out ++ [⟨(out.length : Int), u, v⟩]) (by omega) (by omega) (by simp; omega)
        refine Ev.pos (by omega) ?_
        simp only [if_pos c, Int.toNat_natCast]
        rw [w64s (by omega)]
        rw [List.append_assoc, List.length_append] at ih
        exact ih
      · have ih := specAll_l h hp h1 hl d v (out ++ [⟨(out.length : Int), u, v⟩]) (by omega) (by omega) (by simp; omega)
        refine Ev.neg (by omega) ?_
        simp only [if_neg c, Int.toNat_natCast]
        rw [List.append_assoc, List.length_append] at ih
        exact ih
def allR (p : List RE) (l : List Int) : List HIT × Bool := if askedB p l then (hitsF (cellB (tree p) l) l.length (l.length + 1) 0 0, true) else ([], false)
theorem allR_length (p : List RE) (l : List Int) : (allR p l).1.length ≤ 1000 := by
  unfold allR
  split
  · rename_i h
    have h4 := (Asked.of h).l2
    have := hitsF_length (cellB (tree p) l) l.length (l.length + 1) 0 0
    show (hitsF (cellB (tree p) l) l.length (l.length + 1) 0 0).length ≤ 1000
    omega
  · simp
theorem specFindAll (p : List RE) (hp : SmallR p) (l : List Int) (hl : l.length ≤ 1000000000) : Ev (fun k => spec_FindAll.f k p l) (allR p l) := by
  unfold spec_FindAll.f allR
  refine Ev.bind (specAsked p hp l hl) ?_
  cases h : askedB p l
  · exact Ev.neg (by simp) (Ev.now _)
  · have ha := Asked.of h
    have h4 := ha.l2
    have := specAll_l ha.ok hp (l := l) ha.p1 (by omega) (l.length + 1) 0 [] (by omega) (by omega) (by simp; omega)
    exact Ev.pos rfl this
theorem implFindAll (p : List RE) (hp : SmallR p) (l : List Int) : Ev (fun k => impl_FindAll.f k p l) (allR p l) := by
  unfold impl_FindAll.f allR
  refine Ev.bind (implAsked p hp l) ?_
  cases h : askedB p l
  · exact Ev.neg (by simp) (Ev.now _)
  · have ha := Asked.of h
    have h4 := ha.l2
    have h3 := ha.p2
    have := implAll_l (p := p) (l := l) ha.p1 (by omega) (by omega) (l.length + 1) 0 [] (by omega) (by omega) (by simp; omega)
    have im : Ev (fun k => impl_findAll.f k p l) (hitsF (cellB (tree p) l) l.length (l.length + 1) 0 0) := by
      unfold impl_findAll.f
      exact Ev.bind (implMatch ha.ok hp (by omega) (by omega)) this
    exact Ev.pos rfl (Ev.bind im (Ev.now _))
end Go.Proofs.Ytkpeihdlmjdejaa.Pure
