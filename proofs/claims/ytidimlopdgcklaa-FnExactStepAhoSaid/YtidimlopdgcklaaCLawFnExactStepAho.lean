/- The row of the law FnExactStepAho, out of its pure statement and the walk. By a program of this session. -/
import Derived.Test.YtidimlopdgcklaaCP0
import Derived.Test.YtidimlopdgcklaaRows
import Derived.Test.YtidimlopdgcklaaCPureFnExactStepAho
import Derived.Test.YtidimlopdgcklaaCXOpen
import Derived.WalkKit
import Derived.ProofKit
import Derived.OpenShut
import Derived.ShutString
import Derived.ChangeOld
import Derived.Below
import Derived.SizedLaws
set_option linter.unusedVariables false
namespace Go.Proofs.Ytidimlopdgcklaa.fnExactStepAho
open Go.ChangeShapes Go.WideShapes Go.ChangeAt Go.RowKit
open Go.ChangeMaps (open_string shut_string)
open Go.Proofs.YtidimlopdgcklaaW.PrintWords Go.Proofs.Ytidimlopdgcklaa.P
theorem own : ownKnob Try.prog.godebug = none := by kernel_rfl
theorem laidOut : laidOutB Try.prog = true := by kernel_rfl
theorem opens_53 : XOpen.Opens Try.prog 53 k53 (fun x => ((x.f0.length * 8 ≤ 140737488351232 ∧ ∀ x40_ ∈ x.f0, (Lit.int .i64 x40_).wf = true)) ∧ ((x.f1.length * 8 ≤ 140737488351232 ∧ ∀ x41_ ∈ x.f1, (Lit.int .i64 x41_).wf = true)) ∧ ((x.f2.length * 8 ≤ 140737488351232 ∧ ∀ x42_ ∈ x.f2, (Lit.int .i64 x42_).wf = true)) ∧ ((x.f3.length * 24 ≤ 140737488351232 ∧ ∀ x43_ ∈ x.f3, (x43_.length * 8 ≤ 140737488351232 ∧ ∀ x44_ ∈ x43_, (Lit.int .i64 x44_).wf = true)))) := by
  have o0_ : XOpen.Opens Try.prog 32 (Kd.slice 3 (Kd.int .i64)) (fun x => (x.length * 8 ≤ 140737488351232 ∧ ∀ x35_ ∈ x, (Lit.int .i64 x35_).wf = true)) := (XOpen.Opens.slice (B := 8) Try.underlying32 (by kernel_rfl) (XOpen.Opens.int Try.underlying3 (by kernel_rfl)) (by kernel_rfl))
  have o1_ : XOpen.Opens Try.prog 32 (Kd.slice 3 (Kd.int .i64)) (fun x => (x.length * 8 ≤ 140737488351232 ∧ ∀ x36_ ∈ x, (Lit.int .i64 x36_).wf = true)) := (XOpen.Opens.slice (B := 8) Try.underlying32 (by kernel_rfl) (XOpen.Opens.int Try.underlying3 (by kernel_rfl)) (by kernel_rfl))
  have o2_ : XOpen.Opens Try.prog 32 (Kd.slice 3 (Kd.int .i64)) (fun x => (x.length * 8 ≤ 140737488351232 ∧ ∀ x37_ ∈ x, (Lit.int .i64 x37_).wf = true)) := (XOpen.Opens.slice (B := 8) Try.underlying32 (by kernel_rfl) (XOpen.Opens.int Try.underlying3 (by kernel_rfl)) (by kernel_rfl))
  have o3_ : XOpen.Opens Try.prog 51 (Kd.slice 32 (Kd.slice 3 (Kd.int .i64))) (fun x => (x.length * 24 ≤ 140737488351232 ∧ ∀ x38_ ∈ x, (x38_.length * 8 ≤ 140737488351232 ∧ ∀ x39_ ∈ x38_, (Lit.int .i64 x39_).wf = true))) := (XOpen.Opens.slice (B := 24) Try.underlying51 (by kernel_rfl) (XOpen.Opens.slice (B := 8) Try.underlying32 (by kernel_rfl) (XOpen.Opens.int Try.underlying3 (by kernel_rfl)) (by kernel_rfl)) (by kernel_rfl))
  have h := XOpen.Opens.struct (P := Try.prog) (t := 53) (f := (fun x : S53 => (x.f0, x.f1, x.f2, x.f3))) (fun p => (⟨p.1, p.2.1, p.2.2.1, p.2.2.2⟩ : S53)) (fun _ => rfl) Try.underlying53 (by kernel_rfl) (XOpen.OpensL.cons (by kernel_rfl) (by kernel_rfl) o0_ (XOpen.OpensL.cons (by kernel_rfl) (by kernel_rfl) o1_ (XOpen.OpensL.cons (by kernel_rfl) (by kernel_rfl) o2_ (XOpen.OpensL.one (by kernel_rfl) (by kernel_rfl) o3_))))
  exact h
set_option maxRecDepth 100000 in
theorem lifted (os : Os) (started : os.Started) (H : Type) (enc : TypeId × Value → H) :
    ReturnsInHanded {} Try.checked os 12 .any (Rows.fnExactStepAhoSpec.pre6 enc Try.prog Try.f12 Rows.fnExactStepAhoRow.domain false) (Rows.fnExactStepAhoSpec.post enc Try.prog Try.f12 false true false false) := by
  refine returnsInHanded_of_change_sized (C := Try.checked) own started (by kernel_rfl) Try.func12
    (ChangeSpec.witness6 (enc := enc) (C := Try.checked) false ⟨#[], #[.agg #[.slice none 0 0, .slice none 0 0, .slice none 0 0, .slice none 0 0], .int .i64 0, .int .i64 0], []⟩ 8 (by kernel_rfl) (by kernel_rfl) (by kernel_rfl) (by kernel_rfl)) ?_
  intro W base args ds gs before hval0 hW hcnd hsz0 _
  have hsz : (DataW.weightsEach Try.prog (Try.f12.params.toList ++ Rows.fnExactStepAhoSpec.plain.varTypes Try.prog) (ds ++ gs)).all (· ≤ reachBytes) = true := hsz0
  have hval : ∀ (j : Nat) t v, Try.f12.params[j]? = some t → args[j]? = some v → Value.okWide Try.prog W .any base t v := hval0
  have hW' := hW
  obtain ⟨p, q, hA0, hV, rfl, hfz, hnd⟩ := hW
  have hA : DataW.TrodAll enc Try.prog W 0 (fun _ => true) true Try.f12.params.toList args.toList ds p := hA0
  rw [Try.params12] at hA hval hsz
  obtain ⟨v0, vs0, d0, ds0, p0, q0, hargs, rfl, rfl, h0, r0⟩ := trodAll_cons hA
  obtain ⟨v1, vs1, d1, ds1, p1, q1, rfl, rfl, rfl, h1, r1⟩ := trodAll_cons r0
  obtain ⟨v2, vs2, d2, ds2, p2, q2, rfl, rfl, rfl, h2, r2⟩ := trodAll_cons r1
  obtain ⟨rfl, rfl, rfl⟩ := trodAll_nil r2
  obtain rfl : args = #[v0, v1, v2] := by cases args; simp_all
  obtain ⟨rfl, rfl⟩ := trodVars_none hV
  obtain ⟨cs0, rfl, _⟩ := okWide_struct Try.underlying53 (hval 0 53 v0 rfl rfl)
  have k0 := h0
  have lt0 : ∀ x ∈ p0, x.block < W.heap.size := by obtain ⟨m, hm⟩ := k0; exact DataW.trod_lt m _ _ _ hm
  obtain ⟨y0, hK0, wf0⟩ := XOpen.Opens.arg opens_53 h0 hsz (j := 0) rfl rfl
  obtain ⟨A0_0, c0_0, A0_1, c0_1, A0_2, c0_2, A0_3, c0_3, hcs0, hl0_0, hC0_0, hl0_1, hC0_1, hl0_2, hC0_2, hl0_3, hC0_3⟩ := k53_open hK0
  obtain rfl : cs0 = #[.slice A0_0 y0.f0.length c0_0, .slice A0_1 y0.f1.length c0_1, .slice A0_2 y0.f2.length c0_2, .slice A0_3 y0.f3.length c0_3] := by apply Array.ext'; simpa [Value.cells] using hcs0
  obtain ⟨a1, rfl, rfl, rfl, w1⟩ := open_int Try.underlying3 (hval 1 3 v1 rfl rfl) h1
  obtain ⟨a2, rfl, rfl, rfl, w2⟩ := open_int Try.underlying3 (hval 2 3 v2 rfl rfl) h2
  clear hA0 hval0 hsz0 hsz
  obtain ⟨k, h⟩ := Pure.FnExactStepAho y0.f0 y0.f1 y0.f2 y0.f3 a1 a2 wf0.1 wf0.2.1 wf0.2.2.1 wf0.2.2.2 w1 w2
  refine (P.laws_FnExactStepAho.calls k _ _ y0.f0 _ _ y0.f1 _ _ y0.f2 _ _ y0.f3 a1 a2 true W hC0_0 hl0_0 hC0_1 hl0_1 hC0_2 hl0_2 hC0_3 hl0_3 h).mono fun e W' ⟨he, bel0⟩ => ?_
  have bel : Below W.heap.size W W' := bel0
  subst he
  exact ⟨_, rfl, _, _, _, [], _, [], hW', trodAll_mk1 (shut_bool Try.underlying4 _), (trodAll_cons_mk (Below.trod laidOut (by kernel_rfl) (of_decide_eq_true (by kernel_rfl)) k0 bel lt0) (trodAll_cons_mk (shut_int Try.underlying3 w1) (trodAll_cons_mk (shut_int Try.underlying3 w2) trodAll_mk0))), rfl, bel.frame _, fun h => by cases h⟩
theorem over : Rows.fnExactStepAhoRow.holds Try.pinned (OpenSpec.ofChange Rows.fnExactStepAhoSpec) :=
  OpenClaim.holds_of_wide 12 Try.f12 rfl rfl rfl rfl rfl rfl rfl ⟨rfl, rfl, rfl, rfl, rfl⟩ rfl rfl rfl rfl rfl (by kernel_rfl) Try.func12 (by kernel_rfl)
    (of_decide_eq_true (by kernel_rfl)) (by unfold Func.isWrapper; first | (rw [if_pos (by decide +kernel)]; kernel_rfl) | (rw [if_neg (by decide +kernel)]; exact ⟨rfl, rfl⟩))
    (fun os started H enc _ => lifted os started H enc)
theorem proved : Rows.FnExactStepAhoSaid := over
#print axioms proved
end Go.Proofs.Ytidimlopdgcklaa.fnExactStepAho
namespace Go.Proofs.Ytidimlopdgcklaa
/-- The row, under a short name, for the claim. -/
theorem fnExactStepAho_holds : Rows.FnExactStepAhoSaid := fnExactStepAho.proved
end Go.Proofs.Ytidimlopdgcklaa
