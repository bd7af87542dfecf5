/- The program's GoodSession answers as the reference's, for every session: no condition. -/
import Derived.Test.YtpmdecdomfoaoaaDoorCP0
import Derived.Test.YtpmdecdomfoaoaaDoorC0
import Derived.Test.YtpmdecdomfoaoaaDoorC1
import Derived.Test.YtpmdecdomfoaoaaDoorC2
import Derived.Test.YtpmdecdomfoaoaaDoorC3
import Derived.Test.YtpmdecdomfoaoaaDoorC4
import Derived.Test.YtpmdecdomfoaoaaDoorCStFnExactGoodSession
import Derived.Test.YtpmdecdomfoaoaaDoorCDec
import Derived.Test.YtpmdecdomfoaoaaDoorCBuf
set_option linter.unusedVariables false
set_option linter.unusedSimpArgs false
namespace Go.Proofs.YtpmdecdomfoaoaaDoor.Pure
open Go.RowKit Go.Proofs.YtpmdecdomfoaoaaDoor.P Go.Proofs.YtpmdecdomfoaoaaDoorW.PrintWords
section
variable (d0 d1 d2 : Int) (d3 : ByteArray) (b0 : Int) (r l : List Int) (b3 : Int) (z : Bool)
theorem szIntS_neg (l : List Int) (a : Int) (h : l.length ≤ 1000000000000000) (ha : 0 ≤ a) (ha2 : a ≤ 1000000000000) : laws_szIntS.f l a = some (if a < (l.length : Int) then -1 else a - (l.length : Int)) := by
 unfold laws_szIntS.f
 rw [w64 (by omega) (by omega)]
 by_cases h2 : a < (l.length : Int)
 ·rw [if_pos (by omega), if_pos h2]
 ·rw [if_neg (by omega), if_neg h2]
theorem szSession_cases (a : Int) (ha : 0 ≤ a) (ha2 : a ≤ 1048576) (hd : d3.size ≤ 1000000000000000) (hr : r.length ≤ 1000000000000000) (hl : l.length ≤ 1000000000000000) :
  laws_szSession.f d0 d1 d2 d3 b0 r l b3 z a = some (-1) ∨ ∃ q, laws_szSession.f d0 d1 d2 d3 b0 r l b3 z a = some q ∧ 0 ≤ q ∧ r.length ≤ 1048576 ∧ l.length ≤ 1048576 := by
 unfold laws_szSession.f laws_szDecoder.f laws_szBuf.f
 rw [w64 (by omega) (by omega)]
 by_cases h0 : a - (d3.size : Int) < 0
 ·rw [if_pos h0]
  exact .inl rfl
 rw [if_neg h0, Option.bind_some, if_neg h0, szIntS_neg r _ hr (by omega) (by omega), Option.bind_some]
 by_cases h1 : a - (d3.size : Int) < (r.length : Int)
 ·rw [if_pos h1]
  exact .inl rfl
 rw [if_neg h1, if_neg (by omega), szIntS_neg l _ hl (by omega) (by omega), Option.bind_some]
 by_cases h2 : a - (d3.size : Int) - (r.length : Int) < (l.length : Int)
 ·rw [if_pos h2]
  exact .inl rfl
 rw [if_neg h2, if_neg (by omega), Option.bind_some, if_neg (by omega)]
 exact .inr ⟨_, rfl, by omega, by omega, by omega⟩
variable (hr : r.length ≤ 1048576) (hl : l.length ≤ 1048576)
include hr hl
theorem toSession : Ev (fun k => laws_toSession.f k d0 d1 d2 d3 b0 r l b3 z) (d0, d1, d2, d3, b0, r, l, b3, z) := by
 unfold laws_toSession.f
 exact Ev.bind0 (a := (d0, d1, d2, d3)) rfl (Ev.bind (toBuf b0 r l b3 (by omega) (by omega)) (Ev.now _))
theorem eqSession : Ev (fun k => laws_eqSession.f k d0 d1 d2 d3 b0 r l b3 z d0 d1 d2 d3 b0 r l b3 z) true := by
 have hd : laws_eqDecoder.f d0 d1 d2 d3 d0 d1 d2 d3 = some true := by
  unfold laws_eqDecoder.f
  rw [if_pos rfl, if_pos rfl, if_pos rfl, if_pos rfl]
 unfold laws_eqSession.f
 exact Ev.bind0 hd (Ev.pos rfl (Ev.bind (eqBuf_self b0 r l b3 (by omega) (by omega)) (Ev.pos rfl (Ev.neg (by simp) (Ev.now _)))))
def goodSesB : Bool := (goodDecB d0 d1 d2 d3 && goodBufB b0 r l b3) && (!z || decide (d3.size = 0))
theorem specGoodSes : Ev (fun k => spec_GoodSession.f k d0 d1 d2 d3 b0 r l b3 z) (goodSesB d0 d1 d2 d3 b0 r l b3 z) := by
 unfold spec_GoodSession.f goodSesB
 refine Ev.bind (specGoodDec d0 d1 d2 d3) ?_
 cases h1 : goodDecB d0 d1 d2 d3
 ·exact Ev.neg (by simp) (Ev.now _)
 refine Ev.pos rfl (Ev.bind (specGoodBuf b0 r l b3 (by omega) (by omega)) ?_)
 cases h2 : goodBufB b0 r l b3
 ·exact Ev.neg (by simp) (Ev.now _)
 refine Ev.pos rfl ?_
 cases z
 ·exact Ev.neg (by simp) (Ev.now _)
 ·exact Ev.pos rfl (Ev.some' (by rw [nilB]; simp))
omit hr hl in
theorem implGoodSes : Ev (fun k => impl_GoodSession.f k d0 d1 d2 d3 b0 r l b3 z) (goodSesB d0 d1 d2 d3 b0 r l b3 z) := by
 unfold impl_GoodSession.f goodSesB
 refine Ev.bind (implGoodDec d0 d1 d2 d3) ?_
 cases h1 : goodDecB d0 d1 d2 d3
 ·exact Ev.neg (by simp) (Ev.now _)
 refine Ev.pos rfl (Ev.bind (Ev.congr (fun k => implGoodBuf b0 r l b3 k) (Ev.now _)) ?_)
 cases h2 : goodBufB b0 r l b3
 ·exact Ev.neg (by simp) (Ev.now _)
 refine Ev.pos rfl ?_
 cases z
 ·exact Ev.neg (by simp) (Ev.now _)
 ·exact Ev.pos rfl (Ev.some' (by rw [nilB]; simp))
end
theorem FnExactGoodSession : FnExactGoodSession_Pure := by
 intro d0 d1 d2 d3 b0 r l b3 z _ _ _ w3 _ w5 w6 _
 refine Ev.get (g := fun k => laws_FnExactGoodSession.f k d0 d1 d2 d3 b0 r l b3 z) ?_
 unfold laws_FnExactGoodSession.f
 rcases szSession_cases d0 d1 d2 d3 b0 r l b3 z 1048576 (by omega) (by omega) (by omega) (by omega) (by omega) with h | ⟨q, h, h0, hr, hl⟩
 ·exact Ev.bind0 h (Ev.pos (by omega) (Ev.now _))
 ·have t := toSession d0 d1 d2 d3 b0 r l b3 z hr hl
  refine Ev.bind0 h (Ev.neg (by omega) (Ev.bind t (Ev.bind (specGoodSes d0 d1 d2 d3 b0 r l b3 z hr hl) (Ev.bind t (Ev.bind (implGoodSes d0 d1 d2 d3 b0 r l b3 z) (Ev.neg (by simp) (Ev.bind t (Ev.bind (eqSession d0 d1 d2 d3 b0 r l b3 z hr hl) (Ev.pos rfl (Ev.now _))))))))))
end Go.Proofs.YtpmdecdomfoaoaaDoor.Pure
