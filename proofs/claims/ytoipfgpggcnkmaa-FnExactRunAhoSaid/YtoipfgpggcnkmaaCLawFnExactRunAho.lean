/- The row of the law FnExactRunAho, out of its pure statement and the walk. By a program of this session. -/
import Derived.Test.YtoipfgpggcnkmaaCP0
import Derived.Test.YtoipfgpggcnkmaaRows
import Derived.Test.YtoipfgpggcnkmaaCPureFnExactRunAho
import Derived.Test.YtoipfgpggcnkmaaCXOpen
import Derived.WalkKit
import Derived.ProofKit
import Derived.OpenShut
import Derived.ShutString
import Derived.ChangeOld
import Derived.Below
import Derived.SizedLaws
set_option linter.unusedVariables false
namespace Go.Proofs.Ytoipfgpggcnkmaa.fnExactRunAho
open Go.ChangeShapes Go.WideShapes Go.ChangeAt Go.RowKit
open Go.ChangeMaps (open_string shut_string)
open Go.Proofs.YtoipfgpggcnkmaaW.PrintWords Go.Proofs.Ytoipfgpggcnkmaa.P
theorem own : ownKnob Try.prog.godebug = none := by kernel_rfl
theorem laidOut : laidOutB Try.prog = true := by kernel_rfl
theorem opens_25 : XOpen.Opens Try.prog 25 k25 (fun x => ((x.f0.length * 8 ≤ 140737488351232 ∧ ∀ x6_ ∈ x.f0, (Lit.int .i64 x6_).wf = true)) ∧ ((x.f1.length * 8 ≤ 140737488351232 ∧ ∀ x7_ ∈ x.f1, (Lit.int .i64 x7_).wf = true)) ∧ ((x.f2.length * 8 ≤ 140737488351232 ∧ ∀ x8_ ∈ x.f2, (Lit.int .i64 x8_).wf = true)) ∧ ((x.f3.length * 24 ≤ 140737488351232 ∧ ∀ x9_ ∈ x.f3, (x9_.length * 8 ≤ 140737488351232 ∧ ∀ x10_ ∈ x9_, (Lit.int .i64 x10_).wf = true)))) := by
  have o0_ : XOpen.Opens Try.prog 22 (Kd.slice 3 (Kd.int .i64)) (fun x => (x.length * 8 ≤ 140737488351232 ∧ ∀ x1_ ∈ x, (Lit.int .i64 x1_).wf = true)) := (XOpen.Opens.slice (B := 8) Try.underlying22 (by kernel_rfl) (XOpen.Opens.int Try.underlying3 (by kernel_rfl)) (by kernel_rfl))
  have o1_ : XOpen.Opens Try.prog 22 (Kd.slice 3 (Kd.int .i64)) (fun x => (x.length * 8 ≤ 140737488351232 ∧ ∀ x2_ ∈ x, (Lit.int .i64 x2_).wf = true)) := (XOpen.Opens.slice (B := 8) Try.underlying22 (by kernel_rfl) (XOpen.Opens.int Try.underlying3 (by kernel_rfl)) (by kernel_rfl))
  have o2_ : XOpen.Opens Try.prog 22 (Kd.slice 3 (Kd.int .i64)) (fun x => (x.length * 8 ≤ 140737488351232 ∧ ∀ x3_ ∈ x, (Lit.int .i64 x3_).wf = true)) := (XOpen.Opens.slice (B := 8) Try.underlying22 (by kernel_rfl) (XOpen.Opens.int Try.underlying3 (by kernel_rfl)) (by kernel_rfl))
  have o3_ : XOpen.Opens Try.prog 23 (Kd.slice 22 (Kd.slice 3 (Kd.int .i64))) (fun x => (x.length * 24 ≤ 140737488351232 ∧ ∀ x4_ ∈ x, (x4_.length * 8 ≤ 140737488351232 ∧ ∀ x5_ ∈ x4_, (Lit.int .i64 x5_).wf = true))) := (XOpen.Opens.slice (B := 24) Try.underlying23 (by kernel_rfl) (XOpen.Opens.slice (B := 8) Try.underlying22 (by kernel_rfl) (XOpen.Opens.int Try.underlying3 (by kernel_rfl)) (by kernel_rfl)) (by kernel_rfl))
  have h := XOpen.Opens.struct (P := Try.prog) (t := 25) (f := (fun x : S25 => (x.f0, x.f1, x.f2, x.f3))) (fun p => (⟨p.1, p.2.1, p.2.2.1, p.2.2.2⟩ : S25)) (fun _ => rfl) Try.underlying25 (by kernel_rfl) (XOpen.OpensL.cons (by kernel_rfl) (by kernel_rfl) o0_ (XOpen.OpensL.cons (by kernel_rfl) (by kernel_rfl) o1_ (XOpen.OpensL.cons (by kernel_rfl) (by kernel_rfl) o2_ (XOpen.OpensL.one (by kernel_rfl) (by kernel_rfl) o3_))))
  exact h
set_option maxRecDepth 100000 in
theorem lifted (os : Os) (started : os.Started) (H : Type) (enc : TypeId × Value → H) :
    ReturnsInHanded {} Try.checked os 3 .any (Rows.fnExactRunAhoSpec.pre6 enc Try.prog Try.f3 Rows.fnExactRunAhoRow.domain false) (Rows.fnExactRunAhoSpec.post enc Try.prog Try.f3 false true false false) := by
  refine returnsInHanded_of_change_sized (C := Try.checked) own started (by kernel_rfl) Try.func3
    (ChangeSpec.witness6 (enc := enc) (C := Try.checked) false ⟨#[], #[.agg #[.slice none 0 0, .slice none 0 0, .slice none 0 0, .slice none 0 0], .slice none 0 0], []⟩ 8 (by kernel_rfl) (by kernel_rfl) (by kernel_rfl) (by kernel_rfl)) ?_
  intro W base args ds gs before hval0 hW hcnd hsz0 _
  have hsz : (DataW.weightsEach Try.prog (Try.f3.params.toList ++ Rows.fnExactRunAhoSpec.plain.varTypes Try.prog) (ds ++ gs)).all (· ≤ reachBytes) = true := hsz0
  have hval : ∀ (j : Nat) t v, Try.f3.params[j]? = some t → args[j]? = some v → Value.okWide Try.prog W .any base t v := hval0
  have hW' := hW
  obtain ⟨p, q, hA0, hV, rfl, hfz, hnd⟩ := hW
  have hA : DataW.TrodAll enc Try.prog W 0 (fun _ => true) true Try.f3.params.toList args.toList ds p := hA0
  rw [Try.params3] at hA hval hsz
  obtain ⟨v0, vs0, d0, ds0, p0, q0, hargs, rfl, rfl, h0, r0⟩ := trodAll_cons hA
  obtain ⟨v1, vs1, d1, ds1, p1, q1, rfl, rfl, rfl, h1, r1⟩ := trodAll_cons r0
  obtain ⟨rfl, rfl, rfl⟩ := trodAll_nil r1
  obtain rfl : args = #[v0, v1] := by cases args; simp_all
  obtain ⟨rfl, rfl⟩ := trodVars_none hV
  obtain ⟨cs0, rfl, _⟩ := okWide_struct Try.underlying25 (hval 0 25 v0 rfl rfl)
  have k0 := h0
  have lt0 : ∀ x ∈ p0, x.block < W.heap.size := by obtain ⟨m, hm⟩ := k0; exact DataW.trod_lt m _ _ _ hm
  obtain ⟨y0, hK0, wf0⟩ := XOpen.Opens.arg opens_25 h0 hsz (j := 0) rfl rfl
  obtain ⟨A0_0, c0_0, A0_1, c0_1, A0_2, c0_2, A0_3, c0_3, hcs0, hl0_0, hC0_0, hl0_1, hC0_1, hl0_2, hC0_2, hl0_3, hC0_3⟩ := k25_open hK0
  obtain rfl : cs0 = #[.slice A0_0 y0.f0.length c0_0, .slice A0_1 y0.f1.length c0_1, .slice A0_2 y0.f2.length c0_2, .slice A0_3 y0.f3.length c0_3] := by apply Array.ext'; simpa [Value.cells] using hcs0
  obtain ⟨a1, len1, cap1, rfl⟩ := okWide_slice Try.underlying22 (hval 1 22 v1 rfl rfl)
  have k1 := h1
  have lt1 : ∀ x ∈ p1, x.block < W.heap.size := by obtain ⟨m, hm⟩ := k1; exact DataW.trod_lt m _ _ _ hm
  obtain ⟨l1, hK1, wf1⟩ := XOpen.Opens.arg (XOpen.Opens.slice (B := 8) Try.underlying22 (by kernel_rfl) (XOpen.Opens.int Try.underlying3 (by kernel_rfl)) (by kernel_rfl)) h1 hsz (j := 1) rfl rfl
  obtain ⟨A1, c1, hcs1, hl1, hC1⟩ := hK1
  simp [Value.cells] at hcs1
  obtain ⟨rfl, rfl, rfl⟩ := hcs1
  clear hA0 hval0 hsz0 hsz
  obtain ⟨k, h⟩ := Pure.FnExactRunAho y0.f0 y0.f1 y0.f2 y0.f3 l1 wf0.1 wf0.2.1 wf0.2.2.1 wf0.2.2.2 wf1
  refine (P.laws_FnExactRunAho.calls k _ _ y0.f0 _ _ y0.f1 _ _ y0.f2 _ _ y0.f3 _ _ l1 true W hC0_0 hl0_0 hC0_1 hl0_1 hC0_2 hl0_2 hC0_3 hl0_3 hC1 hl1 h).mono fun e W' ⟨he, bel0⟩ => ?_
  have bel : Below W.heap.size W W' := bel0
  subst he
  exact ⟨_, rfl, _, _, _, [], _, [], hW', trodAll_mk1 (shut_bool Try.underlying4 _), (trodAll_cons_mk (Below.trod laidOut (by kernel_rfl) (of_decide_eq_true (by kernel_rfl)) k0 bel lt0) (trodAll_cons_mk (Below.trod laidOut (by kernel_rfl) (of_decide_eq_true (by kernel_rfl)) k1 bel lt1) trodAll_mk0)), rfl, bel.frame _, fun h => by cases h⟩
theorem over : Rows.fnExactRunAhoRow.holds Try.pinned (OpenSpec.ofChange Rows.fnExactRunAhoSpec) :=
  OpenClaim.holds_of_wide 3 Try.f3 rfl rfl rfl rfl rfl rfl rfl ⟨rfl, rfl, rfl, rfl, rfl⟩ rfl rfl rfl rfl rfl (by kernel_rfl) Try.func3 (by kernel_rfl)
    (of_decide_eq_true (by kernel_rfl)) (by unfold Func.isWrapper; first | (rw [if_pos (by decide +kernel)]; kernel_rfl) | (rw [if_neg (by decide +kernel)]; exact ⟨rfl, rfl⟩))
    (fun os started H enc _ => lifted os started H enc)
theorem proved : Rows.FnExactRunAhoSaid := over
#print axioms proved
end Go.Proofs.Ytoipfgpggcnkmaa.fnExactRunAho
namespace Go.Proofs.Ytoipfgpggcnkmaa
/-- The row, under a short name, for the claim. -/
theorem fnExactRunAho_holds : Rows.FnExactRunAhoSaid := fnExactRunAho.proved
end Go.Proofs.Ytoipfgpggcnkmaa
