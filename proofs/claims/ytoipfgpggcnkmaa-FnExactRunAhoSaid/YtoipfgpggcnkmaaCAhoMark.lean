/- Plain laws of machines of words: copies, sizes, comparisons. -/
import Derived.Test.YtoipfgpggcnkmaaCP0
import Derived.Test.YtoipfgpggcnkmaaC0
import Derived.Test.YtoipfgpggcnkmaaC2
import Derived.Test.YtoipfgpggcnkmaaC5
import Derived.Test.YtoipfgpggcnkmaaCAho
set_option linter.unusedVariables false
set_option linter.unusedSimpArgs false
namespace Go.Proofs.Ytoipfgpggcnkmaa.Pure
open Go.RowKit Go.Proofs.Ytoipfgpggcnkmaa.P Go.Proofs.YtoipfgpggcnkmaaW.PrintWords
structure SmallA (P B F : List Int) (E : List (List Int)) : Prop where
 p : P.length ≤ 1048576
 b : B.length ≤ 1048576
 f : F.length ≤ 1048576
 e : E.length ≤ 1048576
 es : ∀ x ∈ E, x.length ≤ 1048576
 ns : sumLen E ≤ 1048576
theorem SmallA.row {P B F : List Int} {E : List (List Int)} (h : SmallA P B F E) : ∀ i, i < E.length → (rd_L1 E i).length ≤ 1000000000 := fun i hi => by
 rw [rdL_eq E hi]
 have := h.es _ (List.getElem_mem hi)
 omega
theorem szAho_cases (P B F : List Int) (E : List (List Int)) (h1 : P.length ≤ 1000000000000000) (h2 : B.length ≤ 1000000000000000) (h3 : F.length ≤ 1000000000000000) (h4 : E.length ≤ 1000000000000000) (h5 : ∀ x ∈ E, x.length ≤ 1000000000000000) :
  ∃ r, Ev (fun k => laws_szAho.f k P B F E 1048576) r ∧ (r < 0 ∨ (0 ≤ r ∧ SmallA P B F E)) := by
 unfold laws_szAho.f
 have g1 := szIntS_neg P 1048576 h1 (by omega) (by omega)
 by_cases c1 : (1048576 : Int) < (P.length : Int)
 ·rw [if_pos c1] at g1
  exact ⟨-1, Ev.bind0 g1 (Ev.pos (by omega) (Ev.now _)), .inl (by omega)⟩
 rw [if_neg c1] at g1
 have g2 := szIntS_neg B (1048576 - (P.length : Int)) h2 (by omega) (by omega)
 by_cases c2 : (1048576 : Int) - (P.length : Int) < (B.length : Int)
 ·rw [if_pos c2] at g2
  exact ⟨-1, Ev.bind0 g1 (Ev.neg (by omega) (Ev.bind0 g2 (Ev.pos (by omega) (Ev.now _)))), .inl (by omega)⟩
 rw [if_neg c2] at g2
 have g3 := szIntS_neg F (1048576 - (P.length : Int) - (B.length : Int)) h3 (by omega) (by omega)
 by_cases c3 : (1048576 : Int) - (P.length : Int) - (B.length : Int) < (F.length : Int)
 ·rw [if_pos c3] at g3
  exact ⟨-1, Ev.bind0 g1 (Ev.neg (by omega) (Ev.bind0 g2 (Ev.neg (by omega) (Ev.bind0 g3 (Ev.pos (by omega) (Ev.now _)))))), .inl (by omega)⟩
 rw [if_neg c3] at g3
 by_cases c4 : E.length ≤ 1000000000000
 ·obtain ⟨r, hr, hc⟩ := szIntSS_cases E (1048576 - (P.length : Int) - (B.length : Int) - (F.length : Int)) c4 h5 (by omega) (by omega)
  by_cases c5 : r < 0
  ·exact ⟨-1, Ev.bind0 g1 (Ev.neg (by omega) (Ev.bind0 g2 (Ev.neg (by omega) (Ev.bind0 g3 (Ev.neg (by omega) (Ev.bind hr (Ev.pos c5 (Ev.now _)))))))), .inl (by omega)⟩
  ·refine ⟨r, Ev.bind0 g1 (Ev.neg (by omega) (Ev.bind0 g2 (Ev.neg (by omega) (Ev.bind0 g3 (Ev.neg (by omega) (Ev.bind hr (Ev.neg c5 (Ev.now _)))))))), .inr ⟨by omega, ?_⟩⟩
   rcases hc with hc | hc
   ·omega
   exact ⟨by omega, by omega, by omega, by omega, fun x hx => by have := sumLen_mem hx; omega, by omega⟩
 ·refine ⟨-1, Ev.bind0 g1 (Ev.neg (by omega) (Ev.bind0 g2 (Ev.neg (by omega) (Ev.bind0 g3 (Ev.neg (by omega) (Ev.bind (a := -1) ?_ (Ev.pos (by omega) (Ev.now _)))))))), .inl (by omega)⟩
  unfold laws_szIntSS.f
  rw [w64 (by omega) (by omega)]
  exact Ev.pos (by omega) (Ev.now _)
theorem toAho (P B F : List Int) (E : List (List Int)) (h : SmallA P B F E) : Ev (fun k => laws_toAho.f k P B F E) (P, B, F, E) := by
 unfold laws_toAho.f
 have h1 := h.p
 have h2 := h.b
 have h3 := h.f
 have h4 := h.e
 exact Ev.bind (toIntS P (by omega)) (Ev.bind (toIntS B (by omega)) (Ev.bind (toIntS F (by omega)) (Ev.bind (toIntSS E (by omega) (fun x hx => by have := h.es x hx; omega)) (Ev.now _))))
theorem eqAho_self (P B F : List Int) (E : List (List Int)) (h : SmallA P B F E) : Ev (fun k => laws_eqAho.f k P B F E P B F E) true := by
 unfold laws_eqAho.f
 have h1 := h.p
 have h2 := h.b
 have h3 := h.f
 have h4 := h.e
 exact Ev.bind (eqIntS_self P (by omega)) (Ev.pos rfl (Ev.bind (eqIntS_self B (by omega)) (Ev.pos rfl (Ev.bind (eqIntS_self F (by omega)) (Ev.pos rfl (Ev.bind (eqIntSS_self E (by omega) (fun x hx => by have := h.es x hx; omega)) (Ev.pos rfl (Ev.now _))))))))
end Go.Proofs.Ytoipfgpggcnkmaa.Pure
