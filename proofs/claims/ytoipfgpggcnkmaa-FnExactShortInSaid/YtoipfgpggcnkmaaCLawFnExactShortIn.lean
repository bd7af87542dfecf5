/- The row of the law FnExactShortIn, out of its pure statement and the walk. By a program of this session. -/
import Derived.Test.YtoipfgpggcnkmaaCP0
import Derived.Test.YtoipfgpggcnkmaaRows
import Derived.Test.YtoipfgpggcnkmaaCPureFnExactShortIn
import Derived.Test.YtoipfgpggcnkmaaCXOpen
import Derived.WalkKit
import Derived.ProofKit
import Derived.OpenShut
import Derived.ShutString
import Derived.ChangeOld
import Derived.Below
import Derived.SizedLaws
set_option linter.unusedVariables false
namespace Go.Proofs.Ytoipfgpggcnkmaa.fnExactShortIn
open Go.ChangeShapes Go.WideShapes Go.ChangeAt Go.RowKit
open Go.ChangeMaps (open_string shut_string)
open Go.Proofs.YtoipfgpggcnkmaaW.PrintWords Go.Proofs.Ytoipfgpggcnkmaa.P
theorem own : ownKnob Try.prog.godebug = none := by kernel_rfl
theorem laidOut : laidOutB Try.prog = true := by kernel_rfl
theorem opens_42 : XOpen.Opens Try.prog 42 k42 (fun x => ((x.f0.length * 8 ≤ 140737488351232 ∧ ∀ x21_ ∈ x.f0, (Lit.int .i64 x21_).wf = true)) ∧ ((x.f1.length * 24 ≤ 140737488351232 ∧ ∀ x22_ ∈ x.f1, (x22_.length * 8 ≤ 140737488351232 ∧ ∀ x23_ ∈ x22_, (Lit.int .i64 x23_).wf = true))) ∧ ((x.f2.length * 1 ≤ 140737488351232 ∧ ∀ x24_ ∈ x.f2, True))) := by
  have o0_ : XOpen.Opens Try.prog 22 (Kd.slice 3 (Kd.int .i64)) (fun x => (x.length * 8 ≤ 140737488351232 ∧ ∀ x17_ ∈ x, (Lit.int .i64 x17_).wf = true)) := (XOpen.Opens.slice (B := 8) Try.underlying22 (by kernel_rfl) (XOpen.Opens.int Try.underlying3 (by kernel_rfl)) (by kernel_rfl))
  have o1_ : XOpen.Opens Try.prog 23 (Kd.slice 22 (Kd.slice 3 (Kd.int .i64))) (fun x => (x.length * 24 ≤ 140737488351232 ∧ ∀ x18_ ∈ x, (x18_.length * 8 ≤ 140737488351232 ∧ ∀ x19_ ∈ x18_, (Lit.int .i64 x19_).wf = true))) := (XOpen.Opens.slice (B := 24) Try.underlying23 (by kernel_rfl) (XOpen.Opens.slice (B := 8) Try.underlying22 (by kernel_rfl) (XOpen.Opens.int Try.underlying3 (by kernel_rfl)) (by kernel_rfl)) (by kernel_rfl))
  have o2_ : XOpen.Opens Try.prog 40 (Kd.slice 4 Kd.bool) (fun x => (x.length * 1 ≤ 140737488351232 ∧ ∀ x20_ ∈ x, True)) := (XOpen.Opens.slice (B := 1) Try.underlying40 (by kernel_rfl) (XOpen.Opens.bool Try.underlying4 (by kernel_rfl)) (by kernel_rfl))
  have h := XOpen.Opens.struct (P := Try.prog) (t := 42) (f := (fun x : S42 => (x.f0, x.f1, x.f2))) (fun p => (⟨p.1, p.2.1, p.2.2⟩ : S42)) (fun _ => rfl) Try.underlying42 (by kernel_rfl) (XOpen.OpensL.cons (by kernel_rfl) (by kernel_rfl) o0_ (XOpen.OpensL.cons (by kernel_rfl) (by kernel_rfl) o1_ (XOpen.OpensL.one (by kernel_rfl) (by kernel_rfl) o2_)))
  exact h
set_option maxRecDepth 100000 in
theorem lifted (os : Os) (started : os.Started) (H : Type) (enc : TypeId × Value → H) :
    ReturnsInHanded {} Try.checked os 4 .any (Rows.fnExactShortInSpec.pre6 enc Try.prog Try.f4 Rows.fnExactShortInRow.domain false) (Rows.fnExactShortInSpec.post enc Try.prog Try.f4 false true false false) := by
  refine returnsInHanded_of_change_sized (C := Try.checked) own started (by kernel_rfl) Try.func4
    (ChangeSpec.witness6 (enc := enc) (C := Try.checked) false ⟨#[], #[.agg #[.slice none 0 0, .slice none 0 0, .slice none 0 0]], []⟩ 8 (by kernel_rfl) (by kernel_rfl) (by kernel_rfl) (by kernel_rfl)) ?_
  intro W base args ds gs before hval0 hW hcnd hsz0 _
  have hsz : (DataW.weightsEach Try.prog (Try.f4.params.toList ++ Rows.fnExactShortInSpec.plain.varTypes Try.prog) (ds ++ gs)).all (· ≤ reachBytes) = true := hsz0
  have hval : ∀ (j : Nat) t v, Try.f4.params[j]? = some t → args[j]? = some v → Value.okWide Try.prog W .any base t v := hval0
  have hW' := hW
  obtain ⟨p, q, hA0, hV, rfl, hfz, hnd⟩ := hW
  have hA : DataW.TrodAll enc Try.prog W 0 (fun _ => true) true Try.f4.params.toList args.toList ds p := hA0
  rw [Try.params4] at hA hval hsz
  obtain ⟨v0, vs0, d0, ds0, p0, q0, hargs, rfl, rfl, h0, r0⟩ := trodAll_cons hA
  obtain ⟨rfl, rfl, rfl⟩ := trodAll_nil r0
  obtain rfl : args = #[v0] := by cases args; simp_all
  obtain ⟨rfl, rfl⟩ := trodVars_none hV
  obtain ⟨cs0, rfl, _⟩ := okWide_struct Try.underlying42 (hval 0 42 v0 rfl rfl)
  have k0 := h0
  have lt0 : ∀ x ∈ p0, x.block < W.heap.size := by obtain ⟨m, hm⟩ := k0; exact DataW.trod_lt m _ _ _ hm
  obtain ⟨y0, hK0, wf0⟩ := XOpen.Opens.arg opens_42 h0 hsz (j := 0) rfl rfl
  obtain ⟨A0_0, c0_0, A0_1, c0_1, A0_2, c0_2, hcs0, hl0_0, hC0_0, hl0_1, hC0_1, hl0_2, hC0_2⟩ := k42_open hK0
  obtain rfl : cs0 = #[.slice A0_0 y0.f0.length c0_0, .slice A0_1 y0.f1.length c0_1, .slice A0_2 y0.f2.length c0_2] := by apply Array.ext'; simpa [Value.cells] using hcs0
  clear hA0 hval0 hsz0 hsz
  obtain ⟨k, h⟩ := Pure.FnExactShortIn y0.f0 y0.f1 y0.f2 wf0.1 wf0.2.1 wf0.2.2
  refine (P.laws_FnExactShortIn.calls k _ _ y0.f0 _ _ y0.f1 _ _ y0.f2 true W hC0_0 hl0_0 hC0_1 hl0_1 hC0_2 hl0_2 h).mono fun e W' ⟨he, bel0⟩ => ?_
  have bel : Below W.heap.size W W' := bel0
  subst he
  exact ⟨_, rfl, _, _, _, [], _, [], hW', trodAll_mk1 (shut_bool Try.underlying4 _), (trodAll_cons_mk (Below.trod laidOut (by kernel_rfl) (of_decide_eq_true (by kernel_rfl)) k0 bel lt0) trodAll_mk0), rfl, bel.frame _, fun h => by cases h⟩
theorem over : Rows.fnExactShortInRow.holds Try.pinned (OpenSpec.ofChange Rows.fnExactShortInSpec) :=
  OpenClaim.holds_of_wide 4 Try.f4 rfl rfl rfl rfl rfl rfl rfl ⟨rfl, rfl, rfl, rfl, rfl⟩ rfl rfl rfl rfl rfl (by kernel_rfl) Try.func4 (by kernel_rfl)
    (of_decide_eq_true (by kernel_rfl)) (by unfold Func.isWrapper; first | (rw [if_pos (by decide +kernel)]; kernel_rfl) | (rw [if_neg (by decide +kernel)]; exact ⟨rfl, rfl⟩))
    (fun os started H enc _ => lifted os started H enc)
theorem proved : Rows.FnExactShortInSaid := over
#print axioms proved
end Go.Proofs.Ytoipfgpggcnkmaa.fnExactShortIn
namespace Go.Proofs.Ytoipfgpggcnkmaa
/-- The row, under a short name, for the claim. -/
theorem fnExactShortIn_holds : Rows.FnExactShortInSaid := fnExactShortIn.proved
end Go.Proofs.Ytoipfgpggcnkmaa
