/- The program's ByteOf answers as the reference's, for every buffer and number: no condition. -/
import Derived.Test.YtidimlopdgcklaaStFnExactByteOf
import Derived.Test.YtidimlopdgcklaaP20
import Derived.Test.YtidimlopdgcklaaBuf
set_option linter.unusedVariables false
set_option linter.unusedSimpArgs false
namespace Go.Proofs.Ytidimlopdgcklaa.Pure
open Go.RowKit Go.Proofs.Ytidimlopdgcklaa.P Go.Proofs.YtidimlopdgcklaaW.PrintWords
/-- Numbers are added up, as 64 bits hold them. -/
def sum64 (s : Int) : List Int → Int
  | [] => s
  | x :: r => sum64 (wrap64 (s + x)) r
theorem specByte_l (xs : List Int) (hs : xs.length ≤ 1000000000) : ∀ (d i : Nat) (s : Int), i + d = xs.length → Ev (fun k => spec_l10Byte.l0 k s xs (xs.length : Int) (i : Int)) (sum64 s (xs.drop i))
  | 0, i, s, hd => by
    refine Ev.step (fun k => spec_l10Byte.l0.eq_2 ..) (Ev.neg (by omega) (Ev.some' ?_))
    rw [List.drop_eq_nil_of_le (by omega)]
    rfl
  | d + 1, i, s, hd => by
    refine Ev.step (fun k => spec_l10Byte.l0.eq_2 ..) (Ev.pos (by omega) (Ev.pos (by omega) (Ev.pos (by omega) ?_)))
    rw [rd_eq xs (show i < xs.length by omega), drop_cons xs (show i < xs.length by omega), show wrap64 ((i : Int) + 1) = ((i + 1 : Nat) : Int) from by rw [w64 (by omega) (by omega)]; omega]
    exact specByte_l xs hs d (i + 1) _ (by omega)
theorem implByte_l (xs : List Int) (hs : xs.length ≤ 1000000000) : ∀ (d i : Nat) (s : Int), i + d = xs.length → Ev (fun k => impl_Buf_bytes.l0 k s xs (xs.length : Int) (i : Int)) (sum64 s (xs.drop i))
  | 0, i, s, hd => by
    refine Ev.step (fun k => impl_Buf_bytes.l0.eq_2 ..) (Ev.neg (by omega) (Ev.some' ?_))
    rw [List.drop_eq_nil_of_le (by omega)]
    rfl
  | d + 1, i, s, hd => by
    refine Ev.step (fun k => impl_Buf_bytes.l0.eq_2 ..) (Ev.pos (by omega) (Ev.pos (by omega) (Ev.pos (by omega) ?_)))
    rw [rd_eq xs (show i < xs.length by omega), drop_cons xs (show i < xs.length by omega), show wrap64 ((i : Int) + 1) = ((i + 1 : Nat) : Int) from by rw [w64 (by omega) (by omega)]; omega]
    exact implByte_l xs hs d (i + 1) _ (by omega)
theorem specByte (m : Int) (r l : List Int) (g a : Int) (h0 : 0 ≤ a) (h1 : a ≤ (l.length : Int)) (hs : l.length ≤ 1000000000) : Ev (fun k => spec_l10Byte.f k m r l g a) (sum64 g (l.take a.toNat)) := by
  unfold spec_l10Byte.f
  refine Ev.pos h0 (Ev.pos h1 ?_)
  exact specByte_l (l.take a.toNat) (by rw [List.length_take]; omega) (l.take a.toNat).length 0 g (by omega)
theorem implByte (m : Int) (r l : List Int) (g a : Int) (h0 : 0 ≤ a) (h1 : a ≤ (l.length : Int)) (hs : l.length ≤ 1000000000) : Ev (fun k => impl_Buf_bytes.f k m r l g a) (sum64 g (l.take a.toNat)) := by
  unfold impl_Buf_bytes.f
  refine Ev.pos h0 (Ev.pos h1 ?_)
  exact implByte_l (l.take a.toNat) (by rw [List.length_take]; omega) (l.take a.toNat).length 0 g (by omega)
def byteR (m : Int) (r l : List Int) (g a : Int) : Int × Bool := bif goodBufB m r l g then (bif inB a 0 (r.length : Int) then (sum64 g (l.take a.toNat), true) else (0, false)) else (0, false)
theorem good_lens {m : Int} {r l : List Int} {g : Int} (h : goodBufB m r l g = true) : (l.length : Int) = (r.length : Int) := by
  unfold goodBufB at h
  simp at h
  omega
theorem specByteOf (m : Int) (r l : List Int) (g a : Int) (hr : r.length ≤ 1000000000) (hl : l.length ≤ 1000000000) : Ev (fun k => spec_ByteOf.f k m r l g a) (byteR m r l g a) := by
  unfold spec_ByteOf.f byteR
  refine Ev.bind (specGoodBuf m r l g hr hl) ?_
  cases h1 : goodBufB m r l g
  · exact Ev.neg (by simp) (Ev.now _)
  refine Ev.pos rfl (Ev.bind0 (l1In_eq _ _ _) ?_)
  cases h2 : inB a 0 (r.length : Int)
  · exact Ev.neg (by simp) (Ev.now _)
  have h3 := good_lens h1
  unfold inB at h2
  simp at h2
  exact Ev.pos rfl (Ev.bind (specByte m r l g a (by omega) (by omega) hl) (Ev.now _))
theorem implByteOf (m : Int) (r l : List Int) (g a : Int) (hr : r.length ≤ 1000000000) (hl : l.length ≤ 1000000000) : Ev (fun k => impl_ByteOf.f k m r l g a) (byteR m r l g a) := by
  unfold impl_ByteOf.f byteR
  refine Ev.bind (Ev.congr (fun k => implGoodBuf m r l g k) (Ev.now _)) ?_
  cases h1 : goodBufB m r l g
  · exact Ev.neg (by simp) (Ev.now _)
  refine Ev.pos rfl (Ev.bind0 (inRange_eq _ _ _) ?_)
  cases h2 : inB a 0 (r.length : Int)
  · exact Ev.neg (by simp) (Ev.now _)
  have h3 := good_lens h1
  unfold inB at h2
  simp at h2
  exact Ev.pos rfl (Ev.bind (implByte m r l g a (by omega) (by omega) hl) (Ev.now _))
theorem FnExactByteOf : FnExactByteOf_Pure := by
  intro m r l g a _ w1 w2 _ _
  refine Ev.get (g := fun k => laws_FnExactByteOf.f k m r l g a) ?_
  unfold laws_FnExactByteOf.f
  rcases szBuf_cases m r l g (by omega) (by omega) 1048576 (by omega) (by omega) with h | ⟨h, hb⟩
  · exact Ev.bind0 h (Ev.pos (by omega) (Ev.now _))
  · have t := toBuf m r l g (by omega) (by omega)
    refine Ev.bind0 h (Ev.neg (by omega) (Ev.bind t (Ev.bind (specByteOf m r l g a (by omega) (by omega)) (Ev.bind t (Ev.bind (implByteOf m r l g a (by omega) (by omega)) (Ev.pos rfl ?_))))))
    exact Ev.step (fun k => laws_FnExactByteOf.j0.eq_2 ..) (Ev.neg (by simp) (Ev.bind t (Ev.bind (eqBuf_self m r l g (by omega) (by omega)) (Ev.pos rfl (Ev.now _)))))
end Go.Proofs.Ytidimlopdgcklaa.Pure
