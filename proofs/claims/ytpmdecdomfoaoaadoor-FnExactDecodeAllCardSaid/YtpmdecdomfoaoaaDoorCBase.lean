/- Plain laws of lists and of the printed functions' rounds: what holds the marks of lists of whole numbers. -/
import Derived.Test.YtpmdecdomfoaoaaDoorCP0
import Derived.Test.YtpmdecdomfoaoaaDoorC5
import Derived.Test.YtpmdecdomfoaoaaDoorCMark0
set_option linter.unusedVariables false
set_option linter.unusedSimpArgs false
namespace Go.Proofs.YtpmdecdomfoaoaaDoor.Pure
open Go.RowKit Go.Proofs.YtpmdecdomfoaoaaDoor.P Go.Proofs.YtpmdecdomfoaoaaDoorW.PrintWords
theorem heldIntS_l (n : Nat) (a : Int) (ha : 0 ≤ a) (ha2 : a ≤ 1000000000000) (hs : n ≤ 1000000000000) : ∀ (d i : Nat), i + d = n → Ev (fun k => laws_heldIntS.l0 k (marked a n) (a + i) (i : Int)) (a + (n : Int))
 | 0, i, hd => by
  have hl := marked_length a n
  refine Ev.step (fun k => laws_heldIntS.l0.eq_2 ..) (Ev.neg (by omega) (Ev.some' ?_))
  omega
 | d + 1, i, hd => by
  have hl := marked_length a n
  refine Ev.step (fun k => laws_heldIntS.l0.eq_2 ..) (Ev.pos (by omega) (Ev.pos (by omega) (Ev.pos ?_ ?_)))
  ·rw [rd_eq _ (show i < (marked a n).length by omega), marked_get]
  ·rw [w64 (by omega) (by omega), w64 (by omega) (by omega), Int.add_assoc]
   exact heldIntS_l n a ha ha2 hs d (i + 1) (by omega)
theorem heldIntS (n : Nat) (a : Int) (ha : 0 ≤ a) (ha2 : a ≤ 1000000000000) (hs : n ≤ 1000000000000) : Ev (fun k => laws_heldIntS.f k (marked a n) a) (a + (n : Int)) := by
 unfold laws_heldIntS.f
 have := heldIntS_l n a ha ha2 hs n 0 (by omega)
 simpa using this
end Go.Proofs.YtpmdecdomfoaoaaDoor.Pure
