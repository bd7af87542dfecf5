/- Plain laws of searching: the longest match from a place. -/
import Derived.Test.YtkpeihdlmjdejaaCP0
import Derived.Test.YtkpeihdlmjdejaaC5
import Derived.Test.YtkpeihdlmjdejaaCSearch
set_option linter.unusedVariables false
set_option linter.unusedSimpArgs false
namespace Go.Proofs.Ytkpeihdlmjdejaa.Pure
open Go.RowKit Go.Proofs.Ytkpeihdlmjdejaa.P Go.Proofs.YtkpeihdlmjdejaaW.PrintWords
theorem seg_suffix (l : List Int) (a k : Nat) : seg (l.drop a) 0 k = seg l a (a + k) := by
  unfold seg
  rw [List.drop_zero, List.take_drop]
theorem cell_suffix (t : T) (l : List Int) (a k : Nat) : cellB t (l.drop a) 0 k = cellB t l a (a + k) := by
  unfold cellB
  rw [seg_suffix, decide_eq_true (Nat.zero_le k), decide_eq_true (Nat.le_add_right a k)]
/-- The places told, from k on, so many tried. -/
def endsL (Q : Nat → Bool) (a : Nat) : Nat → Nat → List Int
  | 0, _ => []
  | d + 1, k => (if Q k = true then [((a + k : Nat) : Int)] else []) ++ endsL Q a d (k + 1)
theorem endsL_snoc (Q : Nat → Bool) (a : Nat) : ∀ d k : Nat, endsL Q a (d + 1) k = endsL Q a d k ++ (if Q (k + d) = true then [((a + (k + d) : Nat) : Int)] else [])
  | 0, k => by simp [endsL]
  | d + 1, k => by
    have ih := endsL_snoc Q a d (k + 1)
    rw [endsL, ih, endsL, List.append_assoc, show k + 1 + d = k + (d + 1) by omega]
theorem endsL_length (Q : Nat → Bool) (a : Nat) : ∀ d k : Nat, (endsL Q a d k).length ≤ d
  | 0, k => by simp [endsL]
  | d + 1, k => by
    have := endsL_length Q a d (k + 1)
    simp only [endsL, List.length_append]
    split <;> simp <;> omega
theorem endsL_last (Q : Nat → Bool) (a k : Nat) : ∀ d : Nat, (lastF Q k d = none → endsL Q a d k = []) ∧ ∀ y, lastF Q k d = some y → ∃ r, endsL Q a d k = r ++ [((a + y : Nat) : Int)]
  | 0 => ⟨fun _ => rfl, fun y h => by simp [lastF] at h⟩
  | d + 1 => by
    obtain ⟨h1, h2⟩ := endsL_last Q a k d
    rw [endsL_snoc]
    simp only [lastF]
    by_cases c : Q (k + d) = true
    · rw [if_pos c, if_pos c]
      exact ⟨fun h => (by cases h), fun y h => ⟨_, by injection h with h; rw [h]⟩⟩
    · rw [if_neg c, if_neg c, List.append_nil]
      exact ⟨h1, h2⟩
theorem ends_l {p : List RE} {l : List Int} (h1 : 1 ≤ p.length) (h2 : p.length ≤ 1000) {a : Nat} (ha : a ≤ l.length) (hl : l.length ≤ 1000) : ∀ (d k : Nat) (out : List Int), k + d = l.length - a + 1 → out.length ≤ k → Ev (fun f => spec_l7Ends.l0 f p l (a : Int) (sOlds p (l.drop a) p.length) out (k : Int)) (out ++ endsL (fun k => cellB (tree p) (l.drop a) 0 k) a d k)
  | 0, k, out, hd, ho => by
    refine Ev.step (fun k => spec_l7Ends.l0.eq_2 ..) (Ev.neg (by rw [w64 (by omega) (by omega)]; omega) (Ev.some' ?_))
    simp [endsL]
  | d + 1, k, out, hd, ho => by
    have hk : k ≤ (l.drop a).length := by rw [List.length_drop]; omega
    have ew : wrap64 ((p.length : Int) - 1) = ((p.length - 1 : Nat) : Int) := by rw [w64 (by omega) (by omega)]; omega
    have hlt := flat_lt (n := (l.drop a).length + 1) (a := 0) (b := k) (by omega) (by omega)
    refine Ev.step (fun k => spec_l7Ends.l0.eq_2 ..) ?_
    rw [ew, sOlds_length, last_table h1, flatR_length, w64 (x := (l.length : Int) - (a : Int)) (by omega) (by omega), w64 (x := (a : Int) + (k : Int)) (by omega) (by omega), w64s (by omega)]
    have hc := flatR_at (t := tree p) (l := l.drop a) (a := 0) (b := k) (by omega) hk
    rw [Nat.zero_mul, Nat.zero_add] at hc hlt
    rw [hc]
    refine Ev.pos (by omega) (Ev.pos (by omega) (Ev.pos (by omega) (Ev.pos (by omega) (Ev.pos (by exact_mod_cast hlt) ?_))))
    simp only [endsL]
    by_cases c : cellB (tree p) (l.drop a) 0 k = true
    · rw [if_pos c]
      refine Ev.pos c (Ev.pos (by omega) ?_)
      have ih := ends_l h1 h2 ha hl d (k + 1) (out ++ [(a : Int) + (k : Int)]) (by omega) (by simp; omega)
      refine Ev.eq' ih ?_
      rw [List.append_assoc, show (a : Int) + (k : Int) = ((a + k : Nat) : Int) by omega]
    · rw [if_neg c, List.nil_append]
      exact Ev.neg c (ends_l h1 h2 ha hl d (k + 1) out (by omega) (by omega))
def longestR (p : List RE) (l : List Int) (a : Nat) : Int × Bool := match lastF (cellB (tree p) l a) a (l.length + 1 - a) with
  | some y => ((y : Int), true)
  | none => (0, false)
theorem lastF_shift (P : Nat → Bool) (a : Nat) : ∀ d : Nat, lastF P a d = (lastF (fun k => P (a + k)) 0 d).map (fun k => a + k)
  | 0 => rfl
  | d + 1 => by
    simp only [lastF, Nat.zero_add]
    by_cases c : P (a + d) = true
    · rw [if_pos c, if_pos c]; rfl
    · rw [if_neg c, if_neg c, lastF_shift P a d]
theorem specLongest {p : List RE} {l : List Int} (h : Ok p) (hp : SmallR p) (h1 : 1 ≤ p.length) (h2 : p.length ≤ 1000) (hl : l.length ≤ 1000) {a : Nat} (ha : a ≤ l.length) : Ev (fun k => spec_l7Longest.f k p l (a : Int)) (longestR p l a) := by
  unfold spec_l7Longest.f
  have he : Ev (fun k => spec_l7Ends.f k p l (a : Int)) (endsL (fun k => cellB (tree p) (l.drop a) 0 k) a (l.length - a + 1) 0) := by
    unfold spec_l7Ends.f
    rw [Int.toNat_natCast]
    have := ends_l (p := p) h1 h2 ha hl (l.length - a + 1) 0 [] (by omega) (by simp)
    exact Ev.pos (by omega) (Ev.pos (by omega) (Ev.bind (specTable h hp (by rw [List.length_drop]; omega)) this))
  refine Ev.bind he ?_
  obtain ⟨g1, g2⟩ := endsL_last (fun k => cellB (tree p) (l.drop a) 0 k) a 0 (l.length - a + 1)
  have hll := endsL_length (fun k => cellB (tree p) (l.drop a) 0 k) a (l.length - a + 1) 0
  unfold longestR
  rw [show l.length + 1 - a = l.length - a + 1 by omega, lastF_shift, show (fun k => cellB (tree p) l a (a + k)) = (fun k => cellB (tree p) (l.drop a) 0 k) from funext fun k => (cell_suffix _ _ _ _).symm]
  cases hq : lastF (fun k => cellB (tree p) (l.drop a) 0 k) 0 (l.length - a + 1) with
  | none =>
    rw [g1 hq]
    exact Ev.pos rfl (Ev.now _)
  | some y =>
    obtain ⟨r, hr⟩ := g2 y hq
    rw [hr] at hll ⊢
    simp only [List.length_append, List.length_singleton] at hll
    refine Ev.neg (by simp; omega) ?_
    have ew : wrap64 (((r ++ [((a + y : Nat) : Int)]).length : Int) - 1) = (r.length : Int) := by
      rw [List.length_append, List.length_singleton, w64 (by omega) (by omega)]
      omega
    rw [ew]
    refine Ev.pos (by omega) (Ev.pos (by rw [List.length_append]; simp; try omega) (Ev.some' ?_))
    rw [rd_eq _ (show r.length < (r ++ [((a + y : Nat) : Int)]).length by simp)]
    simp
def longestAtR (p : List RE) (l : List Int) (a : Int) : Int × Bool := if askedB p l then (if inB a 0 l.length then longestR p l a.toNat else (0, false)) else (0, false)
theorem specLongestAt (p : List RE) (hp : SmallR p) (l : List Int) (hl : l.length ≤ 1000000000) (a : Int) : Ev (fun k => spec_LongestAt.f k p l a) (longestAtR p l a) := by
  unfold spec_LongestAt.f longestAtR
  refine Ev.bind (specAsked p hp l hl) ?_
  cases h : askedB p l
  · exact Ev.neg (by simp) (Ev.now _)
  have ha := Asked.of h
  have h2 := ha.p2
  have h3 := ha.l2
  refine Ev.pos rfl (Ev.bind0 (l1In_eq _ _ _) ?_)
  cases hb : inB a 0 l.length
  · exact Ev.neg (by simp) (Ev.now _)
  have hb := inB_iff.1 hb
  obtain ⟨m, rfl⟩ := Int.eq_ofNat_of_zero_le hb.1
  refine Ev.pos rfl (Ev.bind (specLongest ha.ok hp ha.p1 (by omega) (by omega) (show m ≤ l.length by omega)) (Ev.some' ?_))
  simp
theorem implLongestAt (p : List RE) (hp : SmallR p) (l : List Int) (a : Int) : Ev (fun k => impl_LongestAt.f k p l a) (longestAtR p l a) := by
  unfold impl_LongestAt.f longestAtR
  refine Ev.bind (implAsked p hp l) ?_
  cases h : askedB p l
  · exact Ev.neg (by simp) (Ev.now _)
  have ha := Asked.of h
  have h2 := ha.p2
  have h3 := ha.l2
  refine Ev.pos rfl (Ev.bind0 (inRange_eq _ _ _) ?_)
  cases hb : inB a 0 l.length
  · exact Ev.neg (by simp) (Ev.now _)
  have hb := inB_iff.1 hb
  obtain ⟨m, rfl⟩ := Int.eq_ofNat_of_zero_le hb.1
  refine Ev.pos rfl (Ev.bind (implMatch ha.ok hp (by omega) (show l.length ≤ 1000 by omega)) (Ev.bind (longest_ev ha.p1 (by omega) (by omega) (show m ≤ l.length by omega) (Nat.le_refl _)) ?_))
  rw [if_pos rfl, if_pos rfl, Int.toNat_natCast]
  unfold longestR
  cases lastF (cellB (tree p) l m) m (l.length + 1 - m) with
  | none => exact Ev.pos (by simp [lastI]) (Ev.now _)
  | some y => exact Ev.neg (by simp [lastI]) (Ev.now _)
end Go.Proofs.Ytkpeihdlmjdejaa.Pure
