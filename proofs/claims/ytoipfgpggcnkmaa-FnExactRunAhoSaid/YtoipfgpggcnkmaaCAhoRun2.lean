/- The reference's RunAho as a plain function. -/
import Derived.Test.YtoipfgpggcnkmaaCP0
import Derived.Test.YtoipfgpggcnkmaaC1
import Derived.Test.YtoipfgpggcnkmaaCAhoRun
import Derived.Test.YtoipfgpggcnkmaaCL8List
set_option linter.unusedVariables false
set_option linter.unusedSimpArgs false
namespace Go.Proofs.Ytoipfgpggcnkmaa.Pure
open Go.RowKit Go.Proofs.Ytoipfgpggcnkmaa.P Go.Proofs.YtoipfgpggcnkmaaW.PrintWords
theorem specRunAho (P B F : List Int) (E : List (List Int)) (l : List Int) (h : SmallA P B F E) (hl : l.length ≤ 1000000000) : Ev (fun k => spec_RunAho.f k P B F E l) (runR P B F E l) := by
 unfold spec_RunAho.f runR
 have bad : Ev (fun k => spec_RunAho.j0 k l true P B F E) ([], false) := Ev.step (fun k => spec_RunAho.j0.eq_2 ..) (Ev.pos rfl (Ev.now _))
 refine Ev.bind (specGoodAho P B F E h.row) ?_
 cases c1 : goodAhoB P B F E
 ·exact Ev.neg (by simp) (Ev.eq' bad (by simp))
 refine Ev.pos rfl (Ev.bind (l8List l (by omega)) ?_)
 rw [Bool.true_and]
 cases c2 : (decide ((l.length : Int) ≤ 120) && l.all runeB)
 ·exact Ev.eq' bad (by simp)
 ·rw [Bool.and_eq_true, decide_eq_true_eq] at c2
  have g := goodA_of c1
  have hn := g.n1
  refine Ev.step (fun k => spec_RunAho.j0.eq_2 ..) (Ev.neg (by simp) ?_)
  have hr := specRun_l g h.es l (by omega) l.length 0 0 [] (by omega) (by omega) (by simp; omega)
  rw [List.drop_zero] at hr
  exact Ev.eq' hr (by simp)
end Go.Proofs.Ytoipfgpggcnkmaa.Pure
