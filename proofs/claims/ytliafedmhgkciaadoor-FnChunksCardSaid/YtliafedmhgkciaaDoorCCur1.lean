/- Plain laws of what is drawn: one of some numbers, yes or no. -/
import Derived.Test.YtliafedmhgkciaaDoorCP0
import Derived.Test.YtliafedmhgkciaaDoorC2
import Derived.Test.YtliafedmhgkciaaDoorCCur
set_option linter.unusedVariables false
set_option linter.unusedSimpArgs false
namespace Go.Proofs.YtliafedmhgkciaaDoor.Pure
open Go.RowKit Go.Proofs.YtliafedmhgkciaaDoor.P Go.Proofs.YtliafedmhgkciaaDoorW.PrintWords
theorem cur_among {c : List Int} (hc : isBytes c) (at_ s : Int) (l : List Int) (hl : 0 < l.length) (hl2 : l.length ≤ 1000000) (h0 : 0 ≤ at_) (h1 : at_ ≤ 100000000000000) : ∃ v at' s', spec_l1Cur_among.f c at_ s l = some (v, at', s') ∧ v ∈ l ∧ at_ ≤ at' ∧ at' ≤ at_ + 2 := by
 unfold spec_l1Cur_among.f
 obtain ⟨v, at', s', h, g1, g2, g3, g4⟩ := cur_pick hc at_ s (l.length : Int) h0 h1 (by omega)
 rw [h, Option.bind_some]
 simp only []
 have hlt : v < (l.length : Int) := by omega
 rw [if_pos g1, if_pos hlt]
 exact ⟨_, _, _, rfl, by rw [rd_eqI l g1 hlt]; exact List.getElem_mem _, g3, g4⟩
theorem cur_one {c : List Int} (hc : isBytes c) (at_ s n : Int) (h0 : 0 ≤ at_) (h1 : at_ ≤ 100000000000000) (hn : n ≤ 1000000000) : ∃ b at' s', spec_l1Cur_one.f c at_ s n = some (b, at', s') ∧ at_ ≤ at' ∧ at' ≤ at_ + 2 := by
 unfold spec_l1Cur_one.f
 obtain ⟨v, at', s', h, g1, g2, g3, g4⟩ := cur_pick hc at_ s n h0 h1 hn
 rw [h, Option.bind_some]
 exact ⟨_, _, _, rfl, g3, g4⟩
end Go.Proofs.YtliafedmhgkciaaDoor.Pure
