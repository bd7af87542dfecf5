/- The row of the law FnExactByteOf, out of its pure statement and the walk. By a program of this session. -/
import Derived.Test.YtidimlopdgcklaaRows
import Derived.Test.YtidimlopdgcklaaP21
import Derived.Test.YtidimlopdgcklaaPureFnExactByteOf
import Derived.Test.YtidimlopdgcklaaXOpen
import Derived.WalkKit
import Derived.ProofKit
import Derived.OpenShut
import Derived.ShutString
import Derived.ChangeOld
import Derived.Below
import Derived.SizedLaws
set_option linter.unusedVariables false
namespace Go.Proofs.Ytidimlopdgcklaa.fnExactByteOf
open Go.ChangeShapes Go.WideShapes Go.ChangeAt Go.RowKit
open Go.ChangeMaps (open_string shut_string)
open Go.Proofs.YtidimlopdgcklaaW.PrintWords Go.Proofs.Ytidimlopdgcklaa.P
theorem own : ownKnob Try.prog.godebug = none := by kernel_rfl
theorem laidOut : laidOutB Try.prog = true := by kernel_rfl
theorem opens_38 : XOpen.Opens Try.prog 38 k38 (fun x => ((Lit.int .i64 x.f0).wf = true) ∧ ((x.f1.length * 8 ≤ 140737488351232 ∧ ∀ x14_ ∈ x.f1, (Lit.int .i64 x14_).wf = true)) ∧ ((x.f2.length * 8 ≤ 140737488351232 ∧ ∀ x15_ ∈ x.f2, (Lit.int .i64 x15_).wf = true)) ∧ ((Lit.int .i64 x.f3).wf = true)) := by
  have o0_ : XOpen.Opens Try.prog 3 (Kd.int .i64) (fun x => (Lit.int .i64 x).wf = true) := (XOpen.Opens.int Try.underlying3 (by kernel_rfl))
  have o1_ : XOpen.Opens Try.prog 32 (Kd.slice 3 (Kd.int .i64)) (fun x => (x.length * 8 ≤ 140737488351232 ∧ ∀ x12_ ∈ x, (Lit.int .i64 x12_).wf = true)) := (XOpen.Opens.slice (B := 8) Try.underlying32 (by kernel_rfl) (XOpen.Opens.int Try.underlying3 (by kernel_rfl)) (by kernel_rfl))
  have o2_ : XOpen.Opens Try.prog 32 (Kd.slice 3 (Kd.int .i64)) (fun x => (x.length * 8 ≤ 140737488351232 ∧ ∀ x13_ ∈ x, (Lit.int .i64 x13_).wf = true)) := (XOpen.Opens.slice (B := 8) Try.underlying32 (by kernel_rfl) (XOpen.Opens.int Try.underlying3 (by kernel_rfl)) (by kernel_rfl))
  have o3_ : XOpen.Opens Try.prog 3 (Kd.int .i64) (fun x => (Lit.int .i64 x).wf = true) := (XOpen.Opens.int Try.underlying3 (by kernel_rfl))
  have h := XOpen.Opens.struct (P := Try.prog) (t := 38) (f := (fun x : S38 => (x.f0, x.f1, x.f2, x.f3))) (fun p => (⟨p.1, p.2.1, p.2.2.1, p.2.2.2⟩ : S38)) (fun _ => rfl) Try.underlying38 (by kernel_rfl) (XOpen.OpensL.cons (by kernel_rfl) (by kernel_rfl) o0_ (XOpen.OpensL.cons (by kernel_rfl) (by kernel_rfl) o1_ (XOpen.OpensL.cons (by kernel_rfl) (by kernel_rfl) o2_ (XOpen.OpensL.one (by kernel_rfl) (by kernel_rfl) o3_))))
  exact h
set_option maxRecDepth 100000 in
theorem lifted (os : Os) (started : os.Started) (H : Type) (enc : TypeId × Value → H) :
    ReturnsInHanded {} Try.checked os 9 .any (Rows.fnExactByteOfSpec.pre6 enc Try.prog Try.f9 Rows.fnExactByteOfRow.domain false) (Rows.fnExactByteOfSpec.post enc Try.prog Try.f9 false true false false) := by
  refine returnsInHanded_of_change_sized (C := Try.checked) own started (by kernel_rfl) Try.func9
    (ChangeSpec.witness6 (enc := enc) (C := Try.checked) false ⟨#[], #[.agg #[.int .i64 0, .slice none 0 0, .slice none 0 0, .int .i64 0], .int .i64 0], []⟩ 8 (by kernel_rfl) (by kernel_rfl) (by kernel_rfl) (by kernel_rfl)) ?_
  intro W base args ds gs before hval0 hW hcnd hsz0 _
  have hsz : (DataW.weightsEach Try.prog (Try.f9.params.toList ++ Rows.fnExactByteOfSpec.plain.varTypes Try.prog) (ds ++ gs)).all (· ≤ reachBytes) = true := hsz0
  have hval : ∀ (j : Nat) t v, Try.f9.params[j]? = some t → args[j]? = some v → Value.okWide Try.prog W .any base t v := hval0
  have hW' := hW
  obtain ⟨p, q, hA0, hV, rfl, hfz, hnd⟩ := hW
  have hA : DataW.TrodAll enc Try.prog W 0 (fun _ => true) true Try.f9.params.toList args.toList ds p := hA0
  rw [Try.params9] at hA hval hsz
  obtain ⟨v0, vs0, d0, ds0, p0, q0, hargs, rfl, rfl, h0, r0⟩ := trodAll_cons hA
  obtain ⟨v1, vs1, d1, ds1, p1, q1, rfl, rfl, rfl, h1, r1⟩ := trodAll_cons r0
  obtain ⟨rfl, rfl, rfl⟩ := trodAll_nil r1
  obtain rfl : args = #[v0, v1] := by cases args; simp_all
  obtain ⟨rfl, rfl⟩ := trodVars_none hV
  obtain ⟨cs0, rfl, _⟩ := okWide_struct Try.underlying38 (hval 0 38 v0 rfl rfl)
  have k0 := h0
  have lt0 : ∀ x ∈ p0, x.block < W.heap.size := by obtain ⟨m, hm⟩ := k0; exact DataW.trod_lt m _ _ _ hm
  obtain ⟨y0, hK0, wf0⟩ := XOpen.Opens.arg opens_38 h0 hsz (j := 0) rfl rfl
  obtain ⟨A0_1, c0_1, A0_2, c0_2, hcs0, hl0_1, hC0_1, hl0_2, hC0_2⟩ := k38_open hK0
  obtain rfl : cs0 = #[.int .i64 y0.f0, .slice A0_1 y0.f1.length c0_1, .slice A0_2 y0.f2.length c0_2, .int .i64 y0.f3] := by apply Array.ext'; simpa [Value.cells] using hcs0
  obtain ⟨a1, rfl, rfl, rfl, w1⟩ := open_int Try.underlying3 (hval 1 3 v1 rfl rfl) h1
  clear hA0 hval0 hsz0 hsz
  obtain ⟨k, h⟩ := Pure.FnExactByteOf y0.f0 y0.f1 y0.f2 y0.f3 a1 wf0.1 wf0.2.1 wf0.2.2.1 wf0.2.2.2 w1
  refine (P.laws_FnExactByteOf.calls k y0.f0 _ _ y0.f1 _ _ y0.f2 y0.f3 a1 true W hC0_1 hl0_1 hC0_2 hl0_2 h).mono fun e W' ⟨he, bel0⟩ => ?_
  have bel : Below W.heap.size W W' := bel0
  subst he
  exact ⟨_, rfl, _, _, _, [], _, [], hW', trodAll_mk1 (shut_bool Try.underlying4 _), (trodAll_cons_mk (Below.trod laidOut (by kernel_rfl) (of_decide_eq_true (by kernel_rfl)) k0 bel lt0) (trodAll_cons_mk (shut_int Try.underlying3 w1) trodAll_mk0)), rfl, bel.frame _, fun h => by cases h⟩
theorem over : Rows.fnExactByteOfRow.holds Try.pinned (OpenSpec.ofChange Rows.fnExactByteOfSpec) :=
  OpenClaim.holds_of_wide 9 Try.f9 rfl rfl rfl rfl rfl rfl rfl ⟨rfl, rfl, rfl, rfl, rfl⟩ rfl rfl rfl rfl rfl (by kernel_rfl) Try.func9 (by kernel_rfl)
    (of_decide_eq_true (by kernel_rfl)) (by unfold Func.isWrapper; first | (rw [if_pos (by decide +kernel)]; kernel_rfl) | (rw [if_neg (by decide +kernel)]; exact ⟨rfl, rfl⟩))
    (fun os started H enc _ => lifted os started H enc)
theorem proved : Rows.FnExactByteOfSaid := over
#print axioms proved
end Go.Proofs.Ytidimlopdgcklaa.fnExactByteOf
namespace Go.Proofs.Ytidimlopdgcklaa
/-- The row, under a short name, for the claim. -/
theorem fnExactByteOf_holds : Rows.FnExactByteOfSaid := fnExactByteOf.proved
end Go.Proofs.Ytidimlopdgcklaa
