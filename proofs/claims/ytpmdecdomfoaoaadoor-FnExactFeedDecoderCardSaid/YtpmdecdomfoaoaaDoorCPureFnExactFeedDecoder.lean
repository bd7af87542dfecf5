/- The program's FeedDecoder answers as the reference's, for every decoder and all bytes: no condition. -/
import Derived.Test.YtpmdecdomfoaoaaDoorCP0
import Derived.Test.YtpmdecdomfoaoaaDoorC0
import Derived.Test.YtpmdecdomfoaoaaDoorC1
import Derived.Test.YtpmdecdomfoaoaaDoorC5
import Derived.Test.YtpmdecdomfoaoaaDoorCStFnExactFeedDecoder
import Derived.Test.YtpmdecdomfoaoaaDoorCFeedD
import Derived.Test.YtpmdecdomfoaoaaDoorCMark0
import Derived.Test.YtpmdecdomfoaoaaDoorCBase
set_option linter.unusedVariables false
set_option linter.unusedSimpArgs false
namespace Go.Proofs.YtpmdecdomfoaoaaDoor.Pure
open Go.RowKit Go.Proofs.YtpmdecdomfoaoaaDoor.P Go.Proofs.YtpmdecdomfoaoaaDoorW.PrintWords
theorem FnExactFeedDecoder : FnExactFeedDecoder_Pure := by
 intro en sh lo h s _ _ _ w3 w4
 refine Ev.get (g := fun k => laws_FnExactFeedDecoder.f k en sh lo h s) ?_
 unfold laws_FnExactFeedDecoder.f
 by_cases c0 : (s.size : Int) > 1048576
 ·exact Ev.pos c0 (Ev.now _)
 refine Ev.neg c0 ?_
 have hz : laws_szDecoder.f en sh lo h 1048576 = some (if (1048576 : Int) < (h.size : Int) then -1 else 1048576 - (h.size : Int)) := by
  unfold laws_szDecoder.f
  rw [w64 (by omega) (by omega)]
  by_cases h2 : (1048576 : Int) < (h.size : Int)
  ·rw [if_pos (by omega), if_pos h2]
  ·rw [if_neg (by omega), if_neg h2]
 refine Ev.bind0 hz ?_
 by_cases c1 : (1048576 : Int) < (h.size : Int)
 ·rw [if_pos c1]
  exact Ev.pos (by omega) (Ev.now _)
 rw [if_neg c1]
 have t : laws_toDecoder.f en sh lo h = some (en, sh, lo, h) := rfl
 have sp := specFeedD en sh lo h s (by omega)
 have im := implFeedD en sh lo h s (by omega)
 have hl := fdR_len en sh lo h s
 refine Ev.neg (by omega) (Ev.bind0 t (Ev.bind sp (Ev.bind0 t (Ev.bind im ?_))))
 generalize fdR en sh lo h s = x at *
 obtain ⟨x1, x2, x3, x4, r, l, z⟩ := x
 simp only [] at hl ⊢
 have er := eqIntS_self r (by omega)
 have el := eqIntS_self l (by omega)
 refine Ev.bind0 (eqDec_self x1 x2 x3 x4) (Ev.pos rfl (Ev.bind er (Ev.pos rfl (Ev.bind el (Ev.pos rfl (Ev.pos (by first | rfl | trivial) ?_))))))
 have m1 := markIntS r 1 (by omega) (by omega) (by omega)
 have m2 := markIntS l (1 + (r.length : Int)) (by omega) (by omega) (by omega)
 have h1 := heldIntS r.length 1 (by omega) (by omega) (by omega)
 have h2 := heldIntS l.length (1 + (r.length : Int)) (by omega) (by omega) (by omega)
 refine Ev.bind m1 (Ev.bind m2 (Ev.bind h1 (Ev.neg (by omega) (Ev.bind h2 (Ev.neg (by omega) (Ev.pos rfl (Ev.bind0 t (Ev.bind im ?_))))))))
 exact Ev.bind0 (eqDec_self x1 x2 x3 x4) (Ev.pos rfl (Ev.bind er (Ev.pos rfl (Ev.bind el (Ev.pos rfl (Ev.pos (by first | rfl | trivial) (Ev.bind h1 (Ev.neg (by omega) (Ev.bind h2 (Ev.neg (by omega) (Ev.pos rfl (Ev.now _))))))))))))
end Go.Proofs.YtpmdecdomfoaoaaDoor.Pure
