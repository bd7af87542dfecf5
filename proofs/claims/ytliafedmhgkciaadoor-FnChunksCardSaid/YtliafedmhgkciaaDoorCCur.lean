/- Plain laws of what is drawn: the reader of choices tells numbers within bounds, whatever its bytes are. -/
import Derived.Test.YtliafedmhgkciaaDoorCP0
import Derived.Test.YtliafedmhgkciaaDoorC2
import Derived.Test.YtliafedmhgkciaaDoorCLoops
import Derived.Laws.BitsLemmas
import Derived.IntWalk
set_option linter.unusedVariables false
set_option linter.unusedSimpArgs false
namespace Go.Proofs.YtliafedmhgkciaaDoor.Pure
open Go.RowKit Go.Proofs.YtliafedmhgkciaaDoor.P Go.Proofs.YtliafedmhgkciaaDoorW.PrintWords
def isBytes (c : List Int) : Prop := c.length ≤ 1000000000000 ∧ ∀ x ∈ c, 0 ≤ x ∧ x ≤ 255
theorem isBytes_of {c : List Int} (h : c.length * 1 ≤ 140737488351232 ∧ ∀ x ∈ c, (Lit.int .u8 x).wf = true) (hs : c.length ≤ 1000000000000) : isBytes c := by
 refine ⟨hs, fun x hx => ?_⟩
 have := h.2 x hx
 have h2 : IntKind.u8.min ≤ x ∧ x ≤ IntKind.u8.max := by simpa [Lit.wf] using this
 have h3 : IntKind.u8.min = 0 := rfl
 have h4 : IntKind.u8.max = 255 := rfl
 omega
theorem u64wrap (x : Int) : 0 ≤ IntKind.u64.wrap x ∧ IntKind.u64.wrap x < 18446744073709551616 := by
 rw [IntKind.wrap_u64]
 omega
theorem cur_next {c : List Int} (hc : isBytes c) (at_ s : Int) (h0 : 0 ≤ at_) (h1 : at_ ≤ 1000000000000000) : ∃ v s', spec_l1Cur_next.f c at_ s = some (v, at_ + 1, s') ∧ 0 ≤ v ∧ v ≤ 255 := by
 unfold spec_l1Cur_next.f
 rw [w64 (x := at_ + 1) (by omega) (by omega)]
 have hb : ∀ x : Int, 0 ≤ wrap64 (Go.bits .and .u64 (IntKind.u64.wrap x / 1099511627776) 255) ∧ wrap64 (Go.bits .and .u64 (IntKind.u64.wrap x / 1099511627776) 255) ≤ 255 := fun x => by
  have hx := u64wrap x
  have : Go.bits .and .u64 (IntKind.u64.wrap x / 1099511627776) 255 = (IntKind.u64.wrap x / 1099511627776) % 256 := by
   have hm := bits_mask .u64 64 (by decide) (fun n h0 h1 => IntWalk.u64_in n (by omega)) 8 (by decide) (IntKind.u64.wrap x / 1099511627776) (by omega) (by omega)
   simpa using hm
  rw [this, w64 (by omega) (by omega)]
  omega
 by_cases c1 : at_ < (c.length : Int)
 ·rw [if_pos c1, if_pos h0]
  have hr : 0 ≤ rd c at_ ∧ rd c at_ ≤ 255 := by
   rw [rd_eqI c h0 c1]
   exact hc.2 _ (List.getElem_mem _)
  have hw : wrap64 (rd c at_) = rd c at_ := w64 (by omega) (by omega)
  split
  ·exact ⟨_, _, rfl, by rw [hw]; omega, by rw [hw]; omega⟩
  ·exact ⟨_, _, rfl, (hb _).1, (hb _).2⟩
 ·rw [if_neg c1]
  split
  ·exact ⟨_, _, rfl, by omega, by omega⟩
  ·exact ⟨_, _, rfl, (hb _).1, (hb _).2⟩
theorem cur_pick {c : List Int} (hc : isBytes c) (at_ s n : Int) (h0 : 0 ≤ at_) (h1 : at_ ≤ 100000000000000) (hn : n ≤ 1000000000) : ∃ v at' s', spec_l1Cur_pick.f c at_ s n = some (v, at', s') ∧ 0 ≤ v ∧ (v = 0 ∨ v < n) ∧ at_ ≤ at' ∧ at' ≤ at_ + 2 := by
 unfold spec_l1Cur_pick.f
 by_cases c1 : n ≤ 1
 ·rw [if_pos c1]
  exact ⟨_, _, _, rfl, by omega, .inl rfl, by omega, by omega⟩
 rw [if_neg c1]
 obtain ⟨v, s', h, hv0, hv1⟩ := cur_next hc at_ s h0 (by omega)
 rw [h, Option.bind_some]
 by_cases c2 : n > 200
 ·rw [if_pos c2]
  obtain ⟨v2, s2, h2, hw0, hw1⟩ := cur_next hc (at_ + 1) s' (by omega) (by omega)
  simp only []
  rw [h2, Option.bind_some, if_neg (by omega)]
  refine ⟨_, _, _, rfl, ?_, .inr ?_, by simp only []; omega, by simp only []; omega⟩
  ·rw [w64 (x := v * 256) (by omega) (by omega), w64 (by omega) (by omega), Int.tmod_eq_emod_of_nonneg (by omega)]
   exact Int.emod_nonneg _ (by omega)
  ·rw [w64 (x := v * 256) (by omega) (by omega), w64 (by omega) (by omega), Int.tmod_eq_emod_of_nonneg (by omega)]
   exact Int.emod_lt_of_pos _ (by omega)
 ·rw [if_neg c2, if_neg (by omega)]
  refine ⟨_, _, _, rfl, ?_, .inr ?_, by simp only []; omega, by simp only []; omega⟩
  ·rw [Int.tmod_eq_emod_of_nonneg (by omega)]
   exact Int.emod_nonneg _ (by omega)
  ·rw [Int.tmod_eq_emod_of_nonneg (by omega)]
   exact Int.emod_lt_of_pos _ (by omega)
end Go.Proofs.YtliafedmhgkciaaDoor.Pure
