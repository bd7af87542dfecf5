/- The row of the law FnExactSentOf, out of its pure statement and the walk. By a program of this session. -/
import Derived.Test.YthjbgnmnemblhaaCP0
import Derived.Test.YthjbgnmnemblhaaRows
import Derived.Test.YthjbgnmnemblhaaCPureFnExactSentOf
import Derived.Test.YthjbgnmnemblhaaCXOpen
import Derived.WalkKit
import Derived.ProofKit
import Derived.OpenShut
import Derived.ShutString
import Derived.ChangeOld
import Derived.Below
import Derived.SizedLaws
set_option linter.unusedVariables false
namespace Go.Proofs.Ythjbgnmnemblhaa.fnExactSentOf
open Go.ChangeShapes Go.WideShapes Go.ChangeAt Go.RowKit
open Go.ChangeMaps (open_string shut_string)
open Go.Proofs.YthjbgnmnemblhaaW.PrintWords Go.Proofs.Ythjbgnmnemblhaa.P
theorem own : ownKnob Try.prog.godebug = none := by kernel_rfl
theorem laidOut : laidOutB Try.prog = true := by kernel_rfl
theorem opens_66 : XOpen.Opens Try.prog 66 k66 (fun x => ((Lit.int .i64 x.f0).wf = true) ∧ ((Lit.int .i64 x.f1).wf = true) ∧ ((Lit.int .i64 x.f2).wf = true) ∧ ((Lit.int .i64 x.f3).wf = true) ∧ ((x.f4.length * 8 ≤ 140737488351232 ∧ ∀ x2_ ∈ x.f4, (Lit.int .i64 x2_).wf = true))) := by
  have o0_ : XOpen.Opens Try.prog 3 (Kd.int .i64) (fun x => (Lit.int .i64 x).wf = true) := (XOpen.Opens.int Try.underlying3 (by kernel_rfl))
  have o1_ : XOpen.Opens Try.prog 3 (Kd.int .i64) (fun x => (Lit.int .i64 x).wf = true) := (XOpen.Opens.int Try.underlying3 (by kernel_rfl))
  have o2_ : XOpen.Opens Try.prog 3 (Kd.int .i64) (fun x => (Lit.int .i64 x).wf = true) := (XOpen.Opens.int Try.underlying3 (by kernel_rfl))
  have o3_ : XOpen.Opens Try.prog 3 (Kd.int .i64) (fun x => (Lit.int .i64 x).wf = true) := (XOpen.Opens.int Try.underlying3 (by kernel_rfl))
  have o4_ : XOpen.Opens Try.prog 22 (Kd.slice 3 (Kd.int .i64)) (fun x => (x.length * 8 ≤ 140737488351232 ∧ ∀ x1_ ∈ x, (Lit.int .i64 x1_).wf = true)) := (XOpen.Opens.slice (B := 8) Try.underlying22 (by kernel_rfl) (XOpen.Opens.int Try.underlying3 (by kernel_rfl)) (by kernel_rfl))
  have h := XOpen.Opens.struct (P := Try.prog) (t := 66) (f := (fun x : S66 => (x.f0, x.f1, x.f2, x.f3, x.f4))) (fun p => (⟨p.1, p.2.1, p.2.2.1, p.2.2.2.1, p.2.2.2.2⟩ : S66)) (fun _ => rfl) Try.underlying66 (by kernel_rfl) (XOpen.OpensL.cons (by kernel_rfl) (by kernel_rfl) o0_ (XOpen.OpensL.cons (by kernel_rfl) (by kernel_rfl) o1_ (XOpen.OpensL.cons (by kernel_rfl) (by kernel_rfl) o2_ (XOpen.OpensL.cons (by kernel_rfl) (by kernel_rfl) o3_ (XOpen.OpensL.one (by kernel_rfl) (by kernel_rfl) o4_)))))
  exact h
theorem opens_25 : XOpen.Opens Try.prog 25 k25 (fun x => ((Lit.int .i64 x.f0).wf = true) ∧ ((Lit.int .i64 x.f1).wf = true) ∧ ((Lit.int .i64 x.f2).wf = true) ∧ (x.f3.size ≤ 140737488351232)) := by
  have o0_ : XOpen.Opens Try.prog 3 (Kd.int .i64) (fun x => (Lit.int .i64 x).wf = true) := (XOpen.Opens.int Try.underlying3 (by kernel_rfl))
  have o1_ : XOpen.Opens Try.prog 3 (Kd.int .i64) (fun x => (Lit.int .i64 x).wf = true) := (XOpen.Opens.int Try.underlying3 (by kernel_rfl))
  have o2_ : XOpen.Opens Try.prog 3 (Kd.int .i64) (fun x => (Lit.int .i64 x).wf = true) := (XOpen.Opens.int Try.underlying3 (by kernel_rfl))
  have o3_ : XOpen.Opens Try.prog 9 Kd.string (fun x => x.size ≤ 140737488351232) := (XOpen.Opens.string Try.underlying9 (by kernel_rfl))
  have h := XOpen.Opens.struct (P := Try.prog) (t := 25) (f := (fun x : S25 => (x.f0, x.f1, x.f2, x.f3))) (fun p => (⟨p.1, p.2.1, p.2.2.1, p.2.2.2⟩ : S25)) (fun _ => rfl) Try.underlying25 (by kernel_rfl) (XOpen.OpensL.cons (by kernel_rfl) (by kernel_rfl) o0_ (XOpen.OpensL.cons (by kernel_rfl) (by kernel_rfl) o1_ (XOpen.OpensL.cons (by kernel_rfl) (by kernel_rfl) o2_ (XOpen.OpensL.one (by kernel_rfl) (by kernel_rfl) o3_))))
  exact h
theorem opens_27 : XOpen.Opens Try.prog 27 k27 (fun x => ((Lit.int .i64 x.f0).wf = true) ∧ ((x.f1.length * 8 ≤ 140737488351232 ∧ ∀ x5_ ∈ x.f1, (Lit.int .i64 x5_).wf = true)) ∧ ((x.f2.length * 8 ≤ 140737488351232 ∧ ∀ x6_ ∈ x.f2, (Lit.int .i64 x6_).wf = true)) ∧ ((Lit.int .i64 x.f3).wf = true)) := by
  have o0_ : XOpen.Opens Try.prog 3 (Kd.int .i64) (fun x => (Lit.int .i64 x).wf = true) := (XOpen.Opens.int Try.underlying3 (by kernel_rfl))
  have o1_ : XOpen.Opens Try.prog 22 (Kd.slice 3 (Kd.int .i64)) (fun x => (x.length * 8 ≤ 140737488351232 ∧ ∀ x3_ ∈ x, (Lit.int .i64 x3_).wf = true)) := (XOpen.Opens.slice (B := 8) Try.underlying22 (by kernel_rfl) (XOpen.Opens.int Try.underlying3 (by kernel_rfl)) (by kernel_rfl))
  have o2_ : XOpen.Opens Try.prog 22 (Kd.slice 3 (Kd.int .i64)) (fun x => (x.length * 8 ≤ 140737488351232 ∧ ∀ x4_ ∈ x, (Lit.int .i64 x4_).wf = true)) := (XOpen.Opens.slice (B := 8) Try.underlying22 (by kernel_rfl) (XOpen.Opens.int Try.underlying3 (by kernel_rfl)) (by kernel_rfl))
  have o3_ : XOpen.Opens Try.prog 3 (Kd.int .i64) (fun x => (Lit.int .i64 x).wf = true) := (XOpen.Opens.int Try.underlying3 (by kernel_rfl))
  have h := XOpen.Opens.struct (P := Try.prog) (t := 27) (f := (fun x : S27 => (x.f0, x.f1, x.f2, x.f3))) (fun p => (⟨p.1, p.2.1, p.2.2.1, p.2.2.2⟩ : S27)) (fun _ => rfl) Try.underlying27 (by kernel_rfl) (XOpen.OpensL.cons (by kernel_rfl) (by kernel_rfl) o0_ (XOpen.OpensL.cons (by kernel_rfl) (by kernel_rfl) o1_ (XOpen.OpensL.cons (by kernel_rfl) (by kernel_rfl) o2_ (XOpen.OpensL.one (by kernel_rfl) (by kernel_rfl) o3_))))
  exact h
theorem opens_29 : XOpen.Opens Try.prog 29 k29 (fun x => (((Lit.int .i64 x.f0.f0).wf = true) ∧ ((Lit.int .i64 x.f0.f1).wf = true) ∧ ((Lit.int .i64 x.f0.f2).wf = true) ∧ (x.f0.f3.size ≤ 140737488351232)) ∧ (((Lit.int .i64 x.f1.f0).wf = true) ∧ ((x.f1.f1.length * 8 ≤ 140737488351232 ∧ ∀ x9_ ∈ x.f1.f1, (Lit.int .i64 x9_).wf = true)) ∧ ((x.f1.f2.length * 8 ≤ 140737488351232 ∧ ∀ x10_ ∈ x.f1.f2, (Lit.int .i64 x10_).wf = true)) ∧ ((Lit.int .i64 x.f1.f3).wf = true)) ∧ (True)) := by
  have o0_ : XOpen.Opens Try.prog 25 k25 (fun x => ((Lit.int .i64 x.f0).wf = true) ∧ ((Lit.int .i64 x.f1).wf = true) ∧ ((Lit.int .i64 x.f2).wf = true) ∧ (x.f3.size ≤ 140737488351232)) := opens_25
  have o1_ : XOpen.Opens Try.prog 27 k27 (fun x => ((Lit.int .i64 x.f0).wf = true) ∧ ((x.f1.length * 8 ≤ 140737488351232 ∧ ∀ x7_ ∈ x.f1, (Lit.int .i64 x7_).wf = true)) ∧ ((x.f2.length * 8 ≤ 140737488351232 ∧ ∀ x8_ ∈ x.f2, (Lit.int .i64 x8_).wf = true)) ∧ ((Lit.int .i64 x.f3).wf = true)) := opens_27
  have o2_ : XOpen.Opens Try.prog 4 Kd.bool (fun x => True) := (XOpen.Opens.bool Try.underlying4 (by kernel_rfl))
  have h := XOpen.Opens.struct (P := Try.prog) (t := 29) (f := (fun x : S29 => (x.f0, x.f1, x.f2))) (fun p => (⟨p.1, p.2.1, p.2.2⟩ : S29)) (fun _ => rfl) Try.underlying29 (by kernel_rfl) (XOpen.OpensL.cons (by kernel_rfl) (by kernel_rfl) o0_ (XOpen.OpensL.cons (by kernel_rfl) (by kernel_rfl) o1_ (XOpen.OpensL.one (by kernel_rfl) (by kernel_rfl) o2_)))
  exact h
theorem opens_31 : XOpen.Opens Try.prog 31 k31 (fun x => ((Lit.int .i64 x.f0).wf = true) ∧ ((x.f1.length * 8 ≤ 140737488351232 ∧ ∀ x16_ ∈ x.f1, (Lit.int .i64 x16_).wf = true)) ∧ ((x.f2.length * 56 ≤ 140737488351232 ∧ ∀ x17_ ∈ x.f2, ((Lit.int .i64 x17_.f0).wf = true) ∧ ((Lit.int .i64 x17_.f1).wf = true) ∧ ((Lit.int .i64 x17_.f2).wf = true) ∧ ((Lit.int .i64 x17_.f3).wf = true) ∧ ((x17_.f4.length * 8 ≤ 140737488351232 ∧ ∀ x18_ ∈ x17_.f4, (Lit.int .i64 x18_).wf = true)))) ∧ ((((Lit.int .i64 x.f3.f0.f0).wf = true) ∧ ((Lit.int .i64 x.f3.f0.f1).wf = true) ∧ ((Lit.int .i64 x.f3.f0.f2).wf = true) ∧ (x.f3.f0.f3.size ≤ 140737488351232)) ∧ (((Lit.int .i64 x.f3.f1.f0).wf = true) ∧ ((x.f3.f1.f1.length * 8 ≤ 140737488351232 ∧ ∀ x19_ ∈ x.f3.f1.f1, (Lit.int .i64 x19_).wf = true)) ∧ ((x.f3.f1.f2.length * 8 ≤ 140737488351232 ∧ ∀ x20_ ∈ x.f3.f1.f2, (Lit.int .i64 x20_).wf = true)) ∧ ((Lit.int .i64 x.f3.f1.f3).wf = true)) ∧ (True))) := by
  have o0_ : XOpen.Opens Try.prog 3 (Kd.int .i64) (fun x => (Lit.int .i64 x).wf = true) := (XOpen.Opens.int Try.underlying3 (by kernel_rfl))
  have o1_ : XOpen.Opens Try.prog 22 (Kd.slice 3 (Kd.int .i64)) (fun x => (x.length * 8 ≤ 140737488351232 ∧ ∀ x11_ ∈ x, (Lit.int .i64 x11_).wf = true)) := (XOpen.Opens.slice (B := 8) Try.underlying22 (by kernel_rfl) (XOpen.Opens.int Try.underlying3 (by kernel_rfl)) (by kernel_rfl))
  have o2_ : XOpen.Opens Try.prog 23 (Kd.slice 66 k66) (fun x => (x.length * 56 ≤ 140737488351232 ∧ ∀ x12_ ∈ x, ((Lit.int .i64 x12_.f0).wf = true) ∧ ((Lit.int .i64 x12_.f1).wf = true) ∧ ((Lit.int .i64 x12_.f2).wf = true) ∧ ((Lit.int .i64 x12_.f3).wf = true) ∧ ((x12_.f4.length * 8 ≤ 140737488351232 ∧ ∀ x13_ ∈ x12_.f4, (Lit.int .i64 x13_).wf = true)))) := (XOpen.Opens.slice (B := 56) Try.underlying23 (by kernel_rfl) opens_66 (by kernel_rfl))
  have o3_ : XOpen.Opens Try.prog 29 k29 (fun x => (((Lit.int .i64 x.f0.f0).wf = true) ∧ ((Lit.int .i64 x.f0.f1).wf = true) ∧ ((Lit.int .i64 x.f0.f2).wf = true) ∧ (x.f0.f3.size ≤ 140737488351232)) ∧ (((Lit.int .i64 x.f1.f0).wf = true) ∧ ((x.f1.f1.length * 8 ≤ 140737488351232 ∧ ∀ x14_ ∈ x.f1.f1, (Lit.int .i64 x14_).wf = true)) ∧ ((x.f1.f2.length * 8 ≤ 140737488351232 ∧ ∀ x15_ ∈ x.f1.f2, (Lit.int .i64 x15_).wf = true)) ∧ ((Lit.int .i64 x.f1.f3).wf = true)) ∧ (True)) := opens_29
  have h := XOpen.Opens.struct (P := Try.prog) (t := 31) (f := (fun x : S31 => (x.f0, x.f1, x.f2, x.f3))) (fun p => (⟨p.1, p.2.1, p.2.2.1, p.2.2.2⟩ : S31)) (fun _ => rfl) Try.underlying31 (by kernel_rfl) (XOpen.OpensL.cons (by kernel_rfl) (by kernel_rfl) o0_ (XOpen.OpensL.cons (by kernel_rfl) (by kernel_rfl) o1_ (XOpen.OpensL.cons (by kernel_rfl) (by kernel_rfl) o2_ (XOpen.OpensL.one (by kernel_rfl) (by kernel_rfl) o3_))))
  exact h
set_option maxRecDepth 100000 in
theorem lifted (os : Os) (started : os.Started) (H : Type) (enc : TypeId × Value → H) :
    ReturnsInHanded {} Try.checked os 3 .any (Rows.fnExactSentOfSpec.pre6 enc Try.prog Try.f3 Rows.fnExactSentOfRow.domain false) (Rows.fnExactSentOfSpec.post enc Try.prog Try.f3 false true false false) := by
  refine returnsInHanded_of_change_sized (C := Try.checked) own started (by kernel_rfl) Try.func3
    (ChangeSpec.witness6 (enc := enc) (C := Try.checked) false ⟨#[], #[.agg #[.int .i64 0, .slice none 0 0, .slice none 0 0, .int .i64 0, .int .i64 0, .int .i64 0, .string ByteArray.empty, .int .i64 0, .slice none 0 0, .slice none 0 0, .int .i64 0, .bool false]], []⟩ 8 (by kernel_rfl) (by kernel_rfl) (by kernel_rfl) (by kernel_rfl)) ?_
  intro W base args ds gs before hval0 hW hcnd hsz0 _
  have hsz : (DataW.weightsEach Try.prog (Try.f3.params.toList ++ Rows.fnExactSentOfSpec.plain.varTypes Try.prog) (ds ++ gs)).all (· ≤ reachBytes) = true := hsz0
  have hval : ∀ (j : Nat) t v, Try.f3.params[j]? = some t → args[j]? = some v → Value.okWide Try.prog W .any base t v := hval0
  have hW' := hW
  obtain ⟨p, q, hA0, hV, rfl, hfz, hnd⟩ := hW
  have hA : DataW.TrodAll enc Try.prog W 0 (fun _ => true) true Try.f3.params.toList args.toList ds p := hA0
  rw [Try.params3] at hA hval hsz
  obtain ⟨v0, vs0, d0, ds0, p0, q0, hargs, rfl, rfl, h0, r0⟩ := trodAll_cons hA
  obtain ⟨rfl, rfl, rfl⟩ := trodAll_nil r0
  obtain rfl : args = #[v0] := by cases args; simp_all
  obtain ⟨rfl, rfl⟩ := trodVars_none hV
  obtain ⟨cs0, rfl, _⟩ := okWide_struct Try.underlying31 (hval 0 31 v0 rfl rfl)
  have k0 := h0
  have lt0 : ∀ x ∈ p0, x.block < W.heap.size := by obtain ⟨m, hm⟩ := k0; exact DataW.trod_lt m _ _ _ hm
  obtain ⟨y0, hK0, wf0⟩ := XOpen.Opens.arg opens_31 h0 hsz (j := 0) rfl rfl
  obtain ⟨A0_1, c0_1, A0_2, c0_2, A0_8, c0_8, A0_9, c0_9, hcs0, hl0_1, hC0_1, hl0_2, hC0_2, hl0_8, hC0_8, hl0_9, hC0_9⟩ := k31_open hK0
  obtain rfl : cs0 = #[.int .i64 y0.f0, .slice A0_1 y0.f1.length c0_1, .slice A0_2 y0.f2.length c0_2, .int .i64 y0.f3.f0.f0, .int .i64 y0.f3.f0.f1, .int .i64 y0.f3.f0.f2, .string y0.f3.f0.f3, .int .i64 y0.f3.f1.f0, .slice A0_8 y0.f3.f1.f1.length c0_8, .slice A0_9 y0.f3.f1.f2.length c0_9, .int .i64 y0.f3.f1.f3, .bool y0.f3.f2] := by apply Array.ext'; simpa [Value.cells] using hcs0
  clear hA0 hval0 hsz0 hsz
  obtain ⟨k, h⟩ := Pure.FnExactSentOf y0.f0 y0.f1 y0.f2 y0.f3.f0.f0 y0.f3.f0.f1 y0.f3.f0.f2 y0.f3.f0.f3 y0.f3.f1.f0 y0.f3.f1.f1 y0.f3.f1.f2 y0.f3.f1.f3 y0.f3.f2 wf0.1 wf0.2.1 wf0.2.2.1 wf0.2.2.2.1.1 wf0.2.2.2.1.2.1 wf0.2.2.2.1.2.2.1 wf0.2.2.2.1.2.2.2 wf0.2.2.2.2.1.1 wf0.2.2.2.2.1.2.1 wf0.2.2.2.2.1.2.2.1 wf0.2.2.2.2.1.2.2.2
  refine (P.laws_FnExactSentOf.calls k y0.f0 _ _ y0.f1 _ _ y0.f2 y0.f3.f0.f0 y0.f3.f0.f1 y0.f3.f0.f2 y0.f3.f0.f3 y0.f3.f1.f0 _ _ y0.f3.f1.f1 _ _ y0.f3.f1.f2 y0.f3.f1.f3 y0.f3.f2 true W hC0_1 hl0_1 hC0_2 hl0_2 hC0_8 hl0_8 hC0_9 hl0_9 h).mono fun e W' ⟨he, bel0⟩ => ?_
  have bel : Below W.heap.size W W' := bel0
  subst he
  exact ⟨_, rfl, _, _, _, [], _, [], hW', trodAll_mk1 (shut_bool Try.underlying4 _), (trodAll_cons_mk (Below.trod laidOut (by kernel_rfl) (of_decide_eq_true (by kernel_rfl)) k0 bel lt0) trodAll_mk0), rfl, bel.frame _, fun h => by cases h⟩
theorem over : Rows.fnExactSentOfRow.holds Try.pinned (OpenSpec.ofChange Rows.fnExactSentOfSpec) :=
  OpenClaim.holds_of_wide 3 Try.f3 rfl rfl rfl rfl rfl rfl rfl ⟨rfl, rfl, rfl, rfl, rfl⟩ rfl rfl rfl rfl rfl (by kernel_rfl) Try.func3 (by kernel_rfl)
    (of_decide_eq_true (by kernel_rfl)) (by unfold Func.isWrapper; first | (rw [if_pos (by decide +kernel)]; kernel_rfl) | (rw [if_neg (by decide +kernel)]; exact ⟨rfl, rfl⟩))
    (fun os started H enc _ => lifted os started H enc)
theorem proved : Rows.FnExactSentOfSaid := over
#print axioms proved
end Go.Proofs.Ythjbgnmnemblhaa.fnExactSentOf
namespace Go.Proofs.Ythjbgnmnemblhaa
/-- The row, under a short name, for the claim. -/
theorem fnExactSentOf_holds : Rows.FnExactSentOfSaid := fnExactSentOf.proved
end Go.Proofs.Ythjbgnmnemblhaa
