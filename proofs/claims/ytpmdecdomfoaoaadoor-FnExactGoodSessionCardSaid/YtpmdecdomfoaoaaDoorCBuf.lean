/- Plain laws of buffers: what is held to be good, how many bytes are gone, copies and comparisons. -/
import Derived.Test.YtpmdecdomfoaoaaDoorCP0
import Derived.Test.YtpmdecdomfoaoaaDoorC0
import Derived.Test.YtpmdecdomfoaoaaDoorC1
import Derived.Test.YtpmdecdomfoaoaaDoorC2
import Derived.Test.YtpmdecdomfoaoaaDoorC3
import Derived.Test.YtpmdecdomfoaoaaDoorC4
import Derived.Test.YtpmdecdomfoaoaaDoorCRunes1
set_option linter.unusedVariables false
set_option linter.unusedSimpArgs false
namespace Go.Proofs.YtpmdecdomfoaoaaDoor.Pure
open Go.RowKit Go.Proofs.YtpmdecdomfoaoaaDoor.P Go.Proofs.YtpmdecdomfoaoaaDoorW.PrintWords
def goodBufB (m : Int) (r l : List Int) (g : Int) : Bool := inB m 1 60 && (decide ((r.length : Int) ≤ m) && r.all runeB) && decide ((l.length : Int) = (r.length : Int)) && l.all (fun x => inB x 1 1000) && inB g 0 1000000
theorem specGoodBuf (m : Int) (r l : List Int) (g : Int) (hr : r.length ≤ 1000000000) (hl : l.length ≤ 1000000000) : Ev (fun k => spec_GoodBuf.f k m r l g) (goodBufB m r l g) := by
 unfold spec_GoodBuf.f goodBufB
 refine Ev.bind0 (l1In_eq _ _ _) ?_
 cases h1 : inB m 1 60
 ·exact Ev.neg (by simp) (Ev.now _)
 refine Ev.pos rfl ?_
 by_cases h2 : (r.length : Int) ≤ m
 ·refine Ev.pos h2 (Ev.bind (l1AllRunes r (by omega)) ?_)
  have h60 : m ≤ 60 := by unfold inB at h1; simp at h1; omega
  have h1000 : decide (r.length ≤ 1000) = true := decide_eq_true (by omega)
  rw [h1000, Bool.and_true, decide_eq_true h2, Bool.true_and, Bool.true_and]
  cases h3 : r.all runeB
  ·exact Ev.neg (by simp) (Ev.some' (by simp))
  refine Ev.pos rfl ?_
  by_cases h4 : (l.length : Int) = (r.length : Int)
  ·refine Ev.pos h4 (Ev.bind (l1All l 1 1000 (by omega)) ?_)
   rw [decide_eq_true h4, Bool.true_and, Bool.true_and]
   cases h5 : l.all (fun x => inB x 1 1000)
   ·exact Ev.neg (by simp) (Ev.some' (by simp))
   ·exact Ev.pos rfl (Ev.bind0 (l1In_eq _ _ _) (Ev.some' (by simp)))
  ·refine Ev.neg h4 (Ev.some' ?_)
   rw [decide_eq_false h4]
   simp
 ·refine Ev.neg h2 (Ev.some' ?_)
  rw [decide_eq_false h2]
  simp
theorem goodBuf1_eq (x : Int) : impl_GoodBuf_1.f x = some (!inB x 1 1000) := by
 unfold impl_GoodBuf_1.f
 rw [inRange_eq]
 rfl
theorem implGoodBuf (m : Int) (r l : List Int) (g : Int) (k : Nat) : impl_GoodBuf.f k m r l g = some (goodBufB m r l g) := by
 unfold impl_GoodBuf.f goodBufB slices_ContainsFunc_int_int_51.f
 rw [anyO_eq (fun x _ => goodBuf1_eq x), inRange_eq, areRunes, inRange_eq]
 simp only [Option.bind_some, List.not_any_eq_all_not]
 cases inB m 1 60
 ·simp
 rw [if_pos rfl]
 cases (decide ((r.length : Int) ≤ m) && r.all runeB)
 ·simp
 rw [if_pos rfl]
 by_cases h4 : (l.length : Int) = (r.length : Int)
 ·rw [if_pos h4, decide_eq_true h4]
  cases inB g 0 1000000 <;> simp
 ·rw [if_neg h4, decide_eq_false h4]
  simp
theorem toBuf (m : Int) (r l : List Int) (g : Int) (hr : r.length ≤ 1000000000) (hl : l.length ≤ 1000000000) : Ev (fun k => laws_toBuf.f k m r l g) (m, r, l, g) := by
 unfold laws_toBuf.f
 exact Ev.bind (toIntS r (by omega)) (Ev.bind (toIntS l (by omega)) (Ev.now _))
theorem eqBuf_self (m : Int) (r l : List Int) (g : Int) (hr : r.length ≤ 1000000000) (hl : l.length ≤ 1000000000) : Ev (fun k => laws_eqBuf.f k m r l g m r l g) true := by
 unfold laws_eqBuf.f
 exact Ev.pos rfl (Ev.bind (eqIntS_self r (by omega)) (Ev.pos rfl (Ev.bind (eqIntS_self l (by omega)) (Ev.pos rfl (Ev.pos rfl (Ev.now _))))))
theorem szIntS_eq (l : List Int) (a : Int) (h : l.length ≤ 1000000000000000) (ha : 0 ≤ a) (ha2 : a ≤ 1000000000000) : laws_szIntS.f l a = some (if a < (l.length : Int) then -1 else a - (l.length : Int)) := by
 unfold laws_szIntS.f
 rw [w64 (by omega) (by omega)]
 by_cases h2 : a < (l.length : Int)
 ·rw [if_pos (by omega), if_pos h2]
 ·rw [if_neg (by omega), if_neg h2]
theorem szBuf_cases (m : Int) (r l : List Int) (g : Int) (hr : r.length ≤ 1000000000000000) (hl : l.length ≤ 1000000000000000) (a : Int) (ha : 0 ≤ a) (ha2 : a ≤ 1000000000000) :
  laws_szBuf.f m r l g a = some (-1) ∨ (laws_szBuf.f m r l g a = some (a - (r.length : Int) - (l.length : Int)) ∧ (r.length : Int) + (l.length : Int) ≤ a) := by
 unfold laws_szBuf.f
 rw [szIntS_eq r a hr ha ha2, Option.bind_some]
 by_cases h1 : a < (r.length : Int)
 ·rw [if_pos h1]
  exact .inl rfl
 ·rw [if_neg h1, if_neg (by omega), szIntS_eq l _ hl (by omega) (by omega), Option.bind_some]
  by_cases h2 : a - (r.length : Int) < (l.length : Int)
  ·rw [if_pos h2]
   exact .inl rfl
  ·rw [if_neg h2, if_neg (by omega)]
   exact .inr ⟨rfl, by omega⟩
end Go.Proofs.YtpmdecdomfoaoaaDoor.Pure
