/- Plain laws: does a list hold a number. -/
import Derived.Test.YtoipfgpggcnkmaaCP0
import Derived.Test.YtoipfgpggcnkmaaC0
import Derived.Test.YtoipfgpggcnkmaaCBase0
import Derived.Test.YtoipfgpggcnkmaaCLoops
set_option linter.unusedVariables false
set_option linter.unusedSimpArgs false
namespace Go.Proofs.Ytoipfgpggcnkmaa.Pure
open Go.RowKit Go.Proofs.Ytoipfgpggcnkmaa.P Go.Proofs.YtoipfgpggcnkmaaW.PrintWords
theorem Ev.anyList {α : Type} (l : List α) (p : α → Bool) (g : Nat → Nat → Option Bool) (h0 : Ev (fun k => g k l.length) false)
  (hs : ∀ (i : Nat) (hi : i < l.length) (v : Bool), Ev (fun k => g k (i + 1)) v → Ev (fun k => g k i) (p (l[i]'hi) || v)) : ∀ (d i : Nat), i + d = l.length → Ev (fun k => g k i) ((l.drop i).any p)
 | 0, i, hd => by
  have e : i = l.length := by omega
  subst e
  rw [List.drop_length]
  exact h0
 | d + 1, i, hd => by
  rw [drop_cons l (show i < l.length by omega), List.any_cons]
  exact hs i (by omega) _ (Ev.anyList l p g h0 hs d (i + 1) (by omega))
def hasM (l : List Int) (x : Int) : Bool := l.any fun y => decide (y = x)
theorem specHas (l : List Int) (x : Int) (hs : l.length ≤ 1000000000) : Ev (fun k => spec_l1Has.f k l x) (hasM l x) := by
 unfold spec_l1Has.f hasM
 have h := Ev.anyList l (fun y => decide (y = x)) (fun k i => spec_l1Has.l0 k x l (l.length : Int) (i : Int))
  (Ev.step (fun k => spec_l1Has.l0.eq_2 ..) (Ev.neg (by omega) (Ev.now _)))
  (fun i hi v hv => by
   refine Ev.step (fun k => spec_l1Has.l0.eq_2 ..) (Ev.pos (by omega) (Ev.pos (by omega) (Ev.pos (by omega) ?_)))
   rw [rd_eq l hi, w64s (by omega)]
   by_cases c : l[i] = x
   ·exact Ev.pos c (Ev.some' (by simp [c]))
   ·exact Ev.neg c (by simpa [c] using hv)) l.length 0 (by omega)
 rw [List.drop_zero] at h
 exact h
end Go.Proofs.Ytoipfgpggcnkmaa.Pure
