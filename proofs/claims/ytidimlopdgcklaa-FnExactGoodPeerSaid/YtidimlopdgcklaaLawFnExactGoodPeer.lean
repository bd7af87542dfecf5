/- The row of the law FnExactGoodPeer, out of its pure statement and the walk. By a program of this session. -/
import Derived.Test.YtidimlopdgcklaaRows
import Derived.Test.YtidimlopdgcklaaP5
import Derived.Test.YtidimlopdgcklaaPureFnExactGoodPeer
import Derived.Test.YtidimlopdgcklaaXOpen
import Derived.WalkKit
import Derived.ProofKit
import Derived.OpenShut
import Derived.ShutString
import Derived.ChangeOld
import Derived.Below
import Derived.SizedLaws
set_option linter.unusedVariables false
namespace Go.Proofs.Ytidimlopdgcklaa.fnExactGoodPeer
open Go.ChangeShapes Go.WideShapes Go.ChangeAt Go.RowKit
open Go.ChangeMaps (open_string shut_string)
open Go.Proofs.YtidimlopdgcklaaW.PrintWords Go.Proofs.Ytidimlopdgcklaa.P
theorem own : ownKnob Try.prog.godebug = none := by kernel_rfl
theorem laidOut : laidOutB Try.prog = true := by kernel_rfl
theorem opens_79 : XOpen.Opens Try.prog 79 k79 (fun x => ((Lit.int .i64 x.f0).wf = true) ∧ (x.f1.size ≤ 140737488351232) ∧ (True)) := by
  have o0_ : XOpen.Opens Try.prog 3 (Kd.int .i64) (fun x => (Lit.int .i64 x).wf = true) := (XOpen.Opens.int Try.underlying3 (by kernel_rfl))
  have o1_ : XOpen.Opens Try.prog 9 Kd.string (fun x => x.size ≤ 140737488351232) := (XOpen.Opens.string Try.underlying9 (by kernel_rfl))
  have o2_ : XOpen.Opens Try.prog 4 Kd.bool (fun x => True) := (XOpen.Opens.bool Try.underlying4 (by kernel_rfl))
  have h := XOpen.Opens.struct (P := Try.prog) (t := 79) (f := (fun x : S79 => (x.f0, x.f1, x.f2))) (fun p => (⟨p.1, p.2.1, p.2.2⟩ : S79)) (fun _ => rfl) Try.underlying79 (by kernel_rfl) (XOpen.OpensL.cons (by kernel_rfl) (by kernel_rfl) o0_ (XOpen.OpensL.cons (by kernel_rfl) (by kernel_rfl) o1_ (XOpen.OpensL.one (by kernel_rfl) (by kernel_rfl) o2_)))
  exact h
set_option maxRecDepth 100000 in
theorem lifted (os : Os) (started : os.Started) (H : Type) (enc : TypeId × Value → H) :
    ReturnsInHanded {} Try.checked os 4 .any (Rows.fnExactGoodPeerSpec.pre6 enc Try.prog Try.f4 Rows.fnExactGoodPeerRow.domain false) (Rows.fnExactGoodPeerSpec.post enc Try.prog Try.f4 false true false false) := by
  refine returnsInHanded_of_change_sized (C := Try.checked) own started (by kernel_rfl) Try.func4
    (ChangeSpec.witness6 (enc := enc) (C := Try.checked) false ⟨#[], #[.slice none 0 0], []⟩ 8 (by kernel_rfl) (by kernel_rfl) (by kernel_rfl) (by kernel_rfl)) ?_
  intro W base args ds gs before hval0 hW hcnd hsz0 _
  have hsz : (DataW.weightsEach Try.prog (Try.f4.params.toList ++ Rows.fnExactGoodPeerSpec.plain.varTypes Try.prog) (ds ++ gs)).all (· ≤ reachBytes) = true := hsz0
  have hval : ∀ (j : Nat) t v, Try.f4.params[j]? = some t → args[j]? = some v → Value.okWide Try.prog W .any base t v := hval0
  have hW' := hW
  obtain ⟨p, q, hA0, hV, rfl, hfz, hnd⟩ := hW
  have hA : DataW.TrodAll enc Try.prog W 0 (fun _ => true) true Try.f4.params.toList args.toList ds p := hA0
  rw [Try.params4] at hA hval hsz
  obtain ⟨v0, vs0, d0, ds0, p0, q0, hargs, rfl, rfl, h0, r0⟩ := trodAll_cons hA
  obtain ⟨rfl, rfl, rfl⟩ := trodAll_nil r0
  obtain rfl : args = #[v0] := by cases args; simp_all
  obtain ⟨rfl, rfl⟩ := trodVars_none hV
  obtain ⟨a0, len0, cap0, rfl⟩ := okWide_slice Try.underlying25 (hval 0 25 v0 rfl rfl)
  have k0 := h0
  have lt0 : ∀ x ∈ p0, x.block < W.heap.size := by obtain ⟨m, hm⟩ := k0; exact DataW.trod_lt m _ _ _ hm
  obtain ⟨l0, hK0, wf0⟩ := XOpen.Opens.arg (XOpen.Opens.slice (B := 32) Try.underlying25 (by kernel_rfl) opens_79 (by kernel_rfl)) h0 hsz (j := 0) rfl rfl
  obtain ⟨A0, c0, hcs0, hl0, hC0⟩ := hK0
  simp [Value.cells] at hcs0
  obtain ⟨rfl, rfl, rfl⟩ := hcs0
  clear hA0 hval0 hsz0 hsz
  obtain ⟨k, h⟩ := Pure.FnExactGoodPeer l0 wf0
  refine (P.laws_FnExactGoodPeer.calls k _ _ l0 true W hC0 hl0 h).mono fun e W' ⟨he, bel0⟩ => ?_
  have bel : Below W.heap.size W W' := bel0
  subst he
  exact ⟨_, rfl, _, _, _, [], _, [], hW', trodAll_mk1 (shut_bool Try.underlying4 _), (trodAll_cons_mk (Below.trod laidOut (by kernel_rfl) (of_decide_eq_true (by kernel_rfl)) k0 bel lt0) trodAll_mk0), rfl, bel.frame _, fun h => by cases h⟩
theorem over : Rows.fnExactGoodPeerRow.holds Try.pinned (OpenSpec.ofChange Rows.fnExactGoodPeerSpec) :=
  OpenClaim.holds_of_wide 4 Try.f4 rfl rfl rfl rfl rfl rfl rfl ⟨rfl, rfl, rfl, rfl, rfl⟩ rfl rfl rfl rfl rfl (by kernel_rfl) Try.func4 (by kernel_rfl)
    (of_decide_eq_true (by kernel_rfl)) (by unfold Func.isWrapper; first | (rw [if_pos (by decide +kernel)]; kernel_rfl) | (rw [if_neg (by decide +kernel)]; exact ⟨rfl, rfl⟩))
    (fun os started H enc _ => lifted os started H enc)
theorem proved : Rows.FnExactGoodPeerSaid := over
#print axioms proved
end Go.Proofs.Ytidimlopdgcklaa.fnExactGoodPeer
namespace Go.Proofs.Ytidimlopdgcklaa
/-- The row, under a short name, for the claim. -/
theorem fnExactGoodPeer_holds : Rows.FnExactGoodPeerSaid := fnExactGoodPeer.proved
end Go.Proofs.Ytidimlopdgcklaa
