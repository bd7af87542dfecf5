/- The row of the law FnExactGoodProg, out of its pure statement and the walk. By a program of this session. -/
import Derived.Test.YtkpeihdlmjdejaaCP0
import Derived.Test.YtkpeihdlmjdejaaRows
import Derived.Test.YtkpeihdlmjdejaaCPureFnExactGoodProg
import Derived.Test.YtkpeihdlmjdejaaCXOpen
import Derived.WalkKit
import Derived.ProofKit
import Derived.OpenShut
import Derived.ShutString
import Derived.ChangeOld
import Derived.Below
import Derived.SizedLaws
set_option linter.unusedVariables false
namespace Go.Proofs.Ytkpeihdlmjdejaa.fnExactGoodProg
open Go.ChangeShapes Go.WideShapes Go.ChangeAt Go.RowKit
open Go.ChangeMaps (open_string shut_string)
open Go.Proofs.YtkpeihdlmjdejaaW.PrintWords Go.Proofs.Ytkpeihdlmjdejaa.P
theorem own : ownKnob Try.prog.godebug = none := by kernel_rfl
theorem laidOut : laidOutB Try.prog = true := by kernel_rfl
theorem opens_87 : XOpen.Opens Try.prog 87 k87 (fun x => ((Lit.int .i64 x.f0).wf = true) ∧ ((x.f1.length * 8 ≤ 140737488351232 ∧ ∀ x30_ ∈ x.f1, (Lit.int .i64 x30_).wf = true))) := by
  have o0_ : XOpen.Opens Try.prog 3 (Kd.int .i64) (fun x => (Lit.int .i64 x).wf = true) := (XOpen.Opens.int Try.underlying3 (by kernel_rfl))
  have o1_ : XOpen.Opens Try.prog 23 (Kd.slice 3 (Kd.int .i64)) (fun x => (x.length * 8 ≤ 140737488351232 ∧ ∀ x29_ ∈ x, (Lit.int .i64 x29_).wf = true)) := (XOpen.Opens.slice (B := 8) Try.underlying23 (by kernel_rfl) (XOpen.Opens.int Try.underlying3 (by kernel_rfl)) (by kernel_rfl))
  have h := XOpen.Opens.struct (P := Try.prog) (t := 87) (f := (fun x : S87 => (x.f0, x.f1))) (fun p => (⟨p.1, p.2⟩ : S87)) (fun _ => rfl) Try.underlying87 (by kernel_rfl) (XOpen.OpensL.cons (by kernel_rfl) (by kernel_rfl) o0_ (XOpen.OpensL.one (by kernel_rfl) (by kernel_rfl) o1_))
  exact h
theorem opens_176 : XOpen.Opens Try.prog 176 k176 (fun x => ((Lit.int .i64 x.f0).wf = true) ∧ ((x.f1.length * 32 ≤ 140737488351232 ∧ ∀ x33_ ∈ x.f1, ((Lit.int .i64 x33_.f0).wf = true) ∧ ((x33_.f1.length * 8 ≤ 140737488351232 ∧ ∀ x34_ ∈ x33_.f1, (Lit.int .i64 x34_).wf = true))))) := by
  have o0_ : XOpen.Opens Try.prog 3 (Kd.int .i64) (fun x => (Lit.int .i64 x).wf = true) := (XOpen.Opens.int Try.underlying3 (by kernel_rfl))
  have o1_ : XOpen.Opens Try.prog 22 (Kd.slice 87 k87) (fun x => (x.length * 32 ≤ 140737488351232 ∧ ∀ x31_ ∈ x, ((Lit.int .i64 x31_.f0).wf = true) ∧ ((x31_.f1.length * 8 ≤ 140737488351232 ∧ ∀ x32_ ∈ x31_.f1, (Lit.int .i64 x32_).wf = true)))) := (XOpen.Opens.slice (B := 32) Try.underlying22 (by kernel_rfl) opens_87 (by kernel_rfl))
  have h := XOpen.Opens.struct (P := Try.prog) (t := 176) (f := (fun x : S176 => (x.f0, x.f1))) (fun p => (⟨p.1, p.2⟩ : S176)) (fun _ => rfl) Try.underlying176 (by kernel_rfl) (XOpen.OpensL.cons (by kernel_rfl) (by kernel_rfl) o0_ (XOpen.OpensL.one (by kernel_rfl) (by kernel_rfl) o1_))
  exact h
theorem opens_112 : XOpen.Opens Try.prog 112 k112 (fun x => ((Lit.int .i64 x.f0).wf = true) ∧ ((Lit.int .i64 x.f1).wf = true) ∧ ((Lit.int .i64 x.f2).wf = true) ∧ ((Lit.int .i64 x.f3).wf = true) ∧ ((x.f4.length * 8 ≤ 140737488351232 ∧ ∀ x40_ ∈ x.f4, (Lit.int .i64 x40_).wf = true)) ∧ ((x.f5.length * 32 ≤ 140737488351232 ∧ ∀ x41_ ∈ x.f5, ((Lit.int .i64 x41_.f0).wf = true) ∧ ((x41_.f1.length * 32 ≤ 140737488351232 ∧ ∀ x42_ ∈ x41_.f1, ((Lit.int .i64 x42_.f0).wf = true) ∧ ((x42_.f1.length * 8 ≤ 140737488351232 ∧ ∀ x43_ ∈ x42_.f1, (Lit.int .i64 x43_).wf = true)))))) ∧ ((x.f6.length * 8 ≤ 140737488351232 ∧ ∀ x44_ ∈ x.f6, (Lit.int .i64 x44_).wf = true))) := by
  have o0_ : XOpen.Opens Try.prog 3 (Kd.int .i64) (fun x => (Lit.int .i64 x).wf = true) := (XOpen.Opens.int Try.underlying3 (by kernel_rfl))
  have o1_ : XOpen.Opens Try.prog 3 (Kd.int .i64) (fun x => (Lit.int .i64 x).wf = true) := (XOpen.Opens.int Try.underlying3 (by kernel_rfl))
  have o2_ : XOpen.Opens Try.prog 3 (Kd.int .i64) (fun x => (Lit.int .i64 x).wf = true) := (XOpen.Opens.int Try.underlying3 (by kernel_rfl))
  have o3_ : XOpen.Opens Try.prog 3 (Kd.int .i64) (fun x => (Lit.int .i64 x).wf = true) := (XOpen.Opens.int Try.underlying3 (by kernel_rfl))
  have o4_ : XOpen.Opens Try.prog 23 (Kd.slice 3 (Kd.int .i64)) (fun x => (x.length * 8 ≤ 140737488351232 ∧ ∀ x35_ ∈ x, (Lit.int .i64 x35_).wf = true)) := (XOpen.Opens.slice (B := 8) Try.underlying23 (by kernel_rfl) (XOpen.Opens.int Try.underlying3 (by kernel_rfl)) (by kernel_rfl))
  have o5_ : XOpen.Opens Try.prog 110 (Kd.slice 176 k176) (fun x => (x.length * 32 ≤ 140737488351232 ∧ ∀ x36_ ∈ x, ((Lit.int .i64 x36_.f0).wf = true) ∧ ((x36_.f1.length * 32 ≤ 140737488351232 ∧ ∀ x37_ ∈ x36_.f1, ((Lit.int .i64 x37_.f0).wf = true) ∧ ((x37_.f1.length * 8 ≤ 140737488351232 ∧ ∀ x38_ ∈ x37_.f1, (Lit.int .i64 x38_).wf = true)))))) := (XOpen.Opens.slice (B := 32) Try.underlying110 (by kernel_rfl) opens_176 (by kernel_rfl))
  have o6_ : XOpen.Opens Try.prog 23 (Kd.slice 3 (Kd.int .i64)) (fun x => (x.length * 8 ≤ 140737488351232 ∧ ∀ x39_ ∈ x, (Lit.int .i64 x39_).wf = true)) := (XOpen.Opens.slice (B := 8) Try.underlying23 (by kernel_rfl) (XOpen.Opens.int Try.underlying3 (by kernel_rfl)) (by kernel_rfl))
  have h := XOpen.Opens.struct (P := Try.prog) (t := 112) (f := (fun x : S112 => (x.f0, x.f1, x.f2, x.f3, x.f4, x.f5, x.f6))) (fun p => (⟨p.1, p.2.1, p.2.2.1, p.2.2.2.1, p.2.2.2.2.1, p.2.2.2.2.2.1, p.2.2.2.2.2.2⟩ : S112)) (fun _ => rfl) Try.underlying112 (by kernel_rfl) (XOpen.OpensL.cons (by kernel_rfl) (by kernel_rfl) o0_ (XOpen.OpensL.cons (by kernel_rfl) (by kernel_rfl) o1_ (XOpen.OpensL.cons (by kernel_rfl) (by kernel_rfl) o2_ (XOpen.OpensL.cons (by kernel_rfl) (by kernel_rfl) o3_ (XOpen.OpensL.cons (by kernel_rfl) (by kernel_rfl) o4_ (XOpen.OpensL.cons (by kernel_rfl) (by kernel_rfl) o5_ (XOpen.OpensL.one (by kernel_rfl) (by kernel_rfl) o6_)))))))
  exact h
set_option maxRecDepth 100000 in
theorem lifted (os : Os) (started : os.Started) (H : Type) (enc : TypeId × Value → H) :
    ReturnsInHanded {} Try.checked os 10 .any (Rows.fnExactGoodProgSpec.pre6 enc Try.prog Try.f10 Rows.fnExactGoodProgRow.domain false) (Rows.fnExactGoodProgSpec.post enc Try.prog Try.f10 false true false false) := by
  refine returnsInHanded_of_change_sized (C := Try.checked) own started (by kernel_rfl) Try.func10
    (ChangeSpec.witness6 (enc := enc) (C := Try.checked) false ⟨#[], #[.slice none 0 0], []⟩ 8 (by kernel_rfl) (by kernel_rfl) (by kernel_rfl) (by kernel_rfl)) ?_
  intro W base args ds gs before hval0 hW hcnd hsz0 _
  have hsz : (DataW.weightsEach Try.prog (Try.f10.params.toList ++ Rows.fnExactGoodProgSpec.plain.varTypes Try.prog) (ds ++ gs)).all (· ≤ reachBytes) = true := hsz0
  have hval : ∀ (j : Nat) t v, Try.f10.params[j]? = some t → args[j]? = some v → Value.okWide Try.prog W .any base t v := hval0
  have hW' := hW
  obtain ⟨p, q, hA0, hV, rfl, hfz, hnd⟩ := hW
  have hA : DataW.TrodAll enc Try.prog W 0 (fun _ => true) true Try.f10.params.toList args.toList ds p := hA0
  rw [Try.params10] at hA hval hsz
  obtain ⟨v0, vs0, d0, ds0, p0, q0, hargs, rfl, rfl, h0, r0⟩ := trodAll_cons hA
  obtain ⟨rfl, rfl, rfl⟩ := trodAll_nil r0
  obtain rfl : args = #[v0] := by cases args; simp_all
  obtain ⟨rfl, rfl⟩ := trodVars_none hV
  obtain ⟨a0, len0, cap0, rfl⟩ := okWide_slice Try.underlying65 (hval 0 65 v0 rfl rfl)
  have k0 := h0
  have lt0 : ∀ x ∈ p0, x.block < W.heap.size := by obtain ⟨m, hm⟩ := k0; exact DataW.trod_lt m _ _ _ hm
  obtain ⟨l0, hK0, wf0⟩ := XOpen.Opens.arg (XOpen.Opens.slice (B := 104) Try.underlying65 (by kernel_rfl) opens_112 (by kernel_rfl)) h0 hsz (j := 0) rfl rfl
  obtain ⟨A0, c0, hcs0, hl0, hC0⟩ := hK0
  simp [Value.cells] at hcs0
  obtain ⟨rfl, rfl, rfl⟩ := hcs0
  clear hA0 hval0 hsz0 hsz
  obtain ⟨k, h⟩ := Pure.FnExactGoodProg l0 wf0
  refine (P.laws_FnExactGoodProg.calls k _ _ l0 true W hC0 hl0 h).mono fun e W' ⟨he, bel0⟩ => ?_
  have bel : Below W.heap.size W W' := bel0
  subst he
  exact ⟨_, rfl, _, _, _, [], _, [], hW', trodAll_mk1 (shut_bool Try.underlying4 _), (trodAll_cons_mk (Below.trod laidOut (by kernel_rfl) (of_decide_eq_true (by kernel_rfl)) k0 bel lt0) trodAll_mk0), rfl, bel.frame _, fun h => by cases h⟩
theorem over : Rows.fnExactGoodProgRow.holds Try.pinned (OpenSpec.ofChange Rows.fnExactGoodProgSpec) :=
  OpenClaim.holds_of_wide 10 Try.f10 rfl rfl rfl rfl rfl rfl rfl ⟨rfl, rfl, rfl, rfl, rfl⟩ rfl rfl rfl rfl rfl (by kernel_rfl) Try.func10 (by kernel_rfl)
    (of_decide_eq_true (by kernel_rfl)) (by unfold Func.isWrapper; first | (rw [if_pos (by decide +kernel)]; kernel_rfl) | (rw [if_neg (by decide +kernel)]; exact ⟨rfl, rfl⟩))
    (fun os started H enc _ => lifted os started H enc)
theorem proved : Rows.FnExactGoodProgSaid := over
#print axioms proved
end Go.Proofs.Ytkpeihdlmjdejaa.fnExactGoodProg
namespace Go.Proofs.Ytkpeihdlmjdejaa
/-- The row, under a short name, for the claim. -/
theorem fnExactGoodProg_holds : Rows.FnExactGoodProgSaid := fnExactGoodProg.proved
end Go.Proofs.Ytkpeihdlmjdejaa
