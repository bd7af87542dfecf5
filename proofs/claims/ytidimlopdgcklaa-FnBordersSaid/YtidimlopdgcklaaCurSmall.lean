/- Plain laws of what is drawn: one of some numbers, yes or no, lists of few letters. -/
import Derived.Test.YtidimlopdgcklaaP29
import Derived.Test.YtidimlopdgcklaaCur
set_option linter.unusedVariables false
set_option linter.unusedSimpArgs false
namespace Go.Proofs.Ytidimlopdgcklaa.Pure
open Go.RowKit Go.Proofs.Ytidimlopdgcklaa.P Go.Proofs.YtidimlopdgcklaaW.PrintWords
theorem cur_among {c : List Int} (hc : isBytes c) (at_ s : Int) (l : List Int) (hl : 0 < l.length) (hl2 : l.length ≤ 1000000) (h0 : 0 ≤ at_) (h1 : at_ ≤ 100000000000000) : ∃ v at' s', spec_l1Cur_among.f c at_ s l = some (v, at', s') ∧ v ∈ l ∧ at_ ≤ at' ∧ at' ≤ at_ + 2 := by
  unfold spec_l1Cur_among.f
  obtain ⟨v, at', s', h, g1, g2, g3, g4⟩ := cur_pick hc at_ s (l.length : Int) h0 h1 (by omega)
  rw [h, Option.bind_some]
  simp only []
  have hlt : v < (l.length : Int) := by omega
  rw [if_pos g1, if_pos hlt]
  exact ⟨_, _, _, rfl, by rw [rd_eqI l g1 hlt]; exact List.getElem_mem _, g3, g4⟩
theorem cur_one {c : List Int} (hc : isBytes c) (at_ s n : Int) (h0 : 0 ≤ at_) (h1 : at_ ≤ 100000000000000) (hn : n ≤ 1000000000) : ∃ b at' s', spec_l1Cur_one.f c at_ s n = some (b, at', s') ∧ at_ ≤ at' ∧ at' ≤ at_ + 2 := by
  unfold spec_l1Cur_one.f
  obtain ⟨v, at', s', h, g1, g2, g3, g4⟩ := cur_pick hc at_ s n h0 h1 hn
  rw [h, Option.bind_some]
  exact ⟨_, _, _, rfl, g3, g4⟩
theorem cur_small_l {c : List Int} (hc : isBytes c) : ∀ (d : Nat) (out : List Int) (at_ s : Int), 0 ≤ at_ → at_ + 2 * d ≤ 1000000000000 → out.length + d ≤ 1000000 → ∃ l at' s', Ev (fun k => spec_l1Cur_small.l0 k out (d : Int) c at_ s) (l, at', s') ∧ l.length = out.length + d ∧ (∀ x ∈ l, x ∈ out ∨ x = 97 ∨ x = 98 ∨ x = 99 ∨ x = 12354) ∧ at_ ≤ at' ∧ at' ≤ at_ + 2 * d
  | 0, out, at_, s, h0, h1, h2 => ⟨out, at_, s, Ev.step (fun k => spec_l1Cur_small.l0.eq_2 ..) (Ev.neg (by omega) (Ev.now _)), by simp, fun x hx => .inl hx, by omega, by omega⟩
  | d + 1, out, at_, s, h0, h1, h2 => by
    obtain ⟨v, at1, s1, h, g1, g2, g3⟩ := cur_among hc at_ s [97, 98, 97, 98, 99, 12354] (by decide) (by decide) h0 (by omega)
    obtain ⟨l, at', s', e, e1, e2, e3, e4⟩ := cur_small_l hc d (out ++ [v]) at1 s1 (by omega) (by omega) (by simp; omega)
    refine ⟨l, at', s', ?_, by rw [e1]; simp; omega, fun x hx => ?_, by omega, by omega⟩
    · refine Ev.step (fun k => spec_l1Cur_small.l0.eq_2 ..) (Ev.pos (by omega) (Ev.bind0 h (Ev.pos (by omega) ?_)))
      simp only []
      rw [w64 (by omega) (by omega), show ((d + 1 : Nat) : Int) - 1 = (d : Int) from by omega]
      exact e
    · rcases e2 x hx with h | h
      · rcases List.mem_append.1 h with h | h
        · exact .inl h
        · right
          rw [List.mem_singleton.1 h]
          have g4 : v = 97 ∨ v = 98 ∨ v = 97 ∨ v = 98 ∨ v = 99 ∨ v = 12354 := by simpa using g1
          omega
      · exact .inr h
theorem cur_small {c : List Int} (hc : isBytes c) (at_ s : Int) (most : Nat) (h0 : 0 ≤ at_) (h1 : at_ ≤ 100000000000) (hm : most ≤ 1000) : ∃ l at' s', Ev (fun k => spec_l1Cur_small.f k c at_ s (most : Int)) (l, at', s') ∧ l.length ≤ most ∧ (∀ x ∈ l, x = 97 ∨ x = 98 ∨ x = 99 ∨ x = 12354) ∧ at_ ≤ at' ∧ at' ≤ at_ + 2 + 2 * most := by
  unfold spec_l1Cur_small.f
  rw [w64 (by omega) (by omega)]
  obtain ⟨v, at1, s1, h, g1, g2, g3, g4⟩ := cur_pick hc at_ s ((most : Int) + 1) h0 (by omega) (by omega)
  obtain ⟨l, at', s', e, e1, e2, e3, e4⟩ := cur_small_l hc v.toNat [] at1 s1 (by omega) (by omega) (by simp; omega)
  rw [Int.toNat_of_nonneg g1] at e
  refine ⟨l, at', s', Ev.bind0 h e, by rw [e1]; simp; omega, fun x hx => ?_, by omega, by omega⟩
  rcases e2 x hx with h | h
  · simp at h
  · exact h
end Go.Proofs.Ytidimlopdgcklaa.Pure
