/- The row of the law FnExactGoodSession, out of its pure statement and the walk. By a program of this session. -/
import Derived.Test.YtpmdecdomfoaoaaDoorCP0
import Derived.Test.YtpmdecdomfoaoaaDoorCCards
import Derived.Test.YtpmdecdomfoaoaaDoorCTie
import Derived.Lib.LaidU8T
import Derived.LaidMore
import Derived.Lay
import Derived.SevenTiedAt
import Derived.Stop.Joined
import Derived.LaidLaws
import Derived.Handed
import Derived.MakeChecks
import Derived.Test.YtpmdecdomfoaoaaDoorRows
import Derived.Test.YtpmdecdomfoaoaaDoorCPureFnExactGoodSession
import Derived.Test.YtpmdecdomfoaoaaDoorCXOpen
import Derived.WalkKit
import Derived.ProofKit
import Derived.OpenShut
import Derived.ShutString
import Derived.ChangeOld
import Derived.Below
import Derived.SizedLaws
set_option linter.unusedVariables false
namespace Go.Proofs.YtpmdecdomfoaoaaDoor.fnExactGoodSession
open Go.ChangeShapes Go.WideShapes Go.ChangeAt Go.RowKit
open Go.ChangeMaps (open_string shut_string)
open Go.Proofs.YtpmdecdomfoaoaaDoorW.PrintWords Go.Proofs.YtpmdecdomfoaoaaDoor.P
theorem own : ownKnob Tryd.prog.godebug = none := by kernel_rfl
theorem laidOut : laidOutB Tryd.prog = true := by kernel_rfl
theorem opens_23 : XOpen.Opens Tryd.prog 23 k23 (fun x => ((Lit.int .i64 x.f0).wf = true) ∧ ((Lit.int .i64 x.f1).wf = true) ∧ ((Lit.int .i64 x.f2).wf = true) ∧ (x.f3.size ≤ 140737488351232)) := by
  have o0_ : XOpen.Opens Tryd.prog 3 (Kd.int .i64) (fun x => (Lit.int .i64 x).wf = true) := (XOpen.Opens.int Tryd.underlying3 (by kernel_rfl))
  have o1_ : XOpen.Opens Tryd.prog 3 (Kd.int .i64) (fun x => (Lit.int .i64 x).wf = true) := (XOpen.Opens.int Tryd.underlying3 (by kernel_rfl))
  have o2_ : XOpen.Opens Tryd.prog 3 (Kd.int .i64) (fun x => (Lit.int .i64 x).wf = true) := (XOpen.Opens.int Tryd.underlying3 (by kernel_rfl))
  have o3_ : XOpen.Opens Tryd.prog 9 Kd.string (fun x => x.size ≤ 140737488351232) := (XOpen.Opens.string Tryd.underlying9 (by kernel_rfl))
  have h := XOpen.Opens.struct (P := Tryd.prog) (t := 23) (f := (fun x : S23 => (x.f0, x.f1, x.f2, x.f3))) (fun p => (⟨p.1, p.2.1, p.2.2.1, p.2.2.2⟩ : S23)) (fun _ => rfl) Tryd.underlying23 (by kernel_rfl) (XOpen.OpensL.cons (by kernel_rfl) (by kernel_rfl) o0_ (XOpen.OpensL.cons (by kernel_rfl) (by kernel_rfl) o1_ (XOpen.OpensL.cons (by kernel_rfl) (by kernel_rfl) o2_ (XOpen.OpensL.one (by kernel_rfl) (by kernel_rfl) o3_))))
  exact h
theorem opens_26 : XOpen.Opens Tryd.prog 26 k26 (fun x => ((Lit.int .i64 x.f0).wf = true) ∧ ((x.f1.length * 8 ≤ 140737488351232 ∧ ∀ x3_ ∈ x.f1, (Lit.int .i64 x3_).wf = true)) ∧ ((x.f2.length * 8 ≤ 140737488351232 ∧ ∀ x4_ ∈ x.f2, (Lit.int .i64 x4_).wf = true)) ∧ ((Lit.int .i64 x.f3).wf = true)) := by
  have o0_ : XOpen.Opens Tryd.prog 3 (Kd.int .i64) (fun x => (Lit.int .i64 x).wf = true) := (XOpen.Opens.int Tryd.underlying3 (by kernel_rfl))
  have o1_ : XOpen.Opens Tryd.prog 24 (Kd.slice 3 (Kd.int .i64)) (fun x => (x.length * 8 ≤ 140737488351232 ∧ ∀ x1_ ∈ x, (Lit.int .i64 x1_).wf = true)) := (XOpen.Opens.slice (B := 8) Tryd.underlying24 (by kernel_rfl) (XOpen.Opens.int Tryd.underlying3 (by kernel_rfl)) (by kernel_rfl))
  have o2_ : XOpen.Opens Tryd.prog 24 (Kd.slice 3 (Kd.int .i64)) (fun x => (x.length * 8 ≤ 140737488351232 ∧ ∀ x2_ ∈ x, (Lit.int .i64 x2_).wf = true)) := (XOpen.Opens.slice (B := 8) Tryd.underlying24 (by kernel_rfl) (XOpen.Opens.int Tryd.underlying3 (by kernel_rfl)) (by kernel_rfl))
  have o3_ : XOpen.Opens Tryd.prog 3 (Kd.int .i64) (fun x => (Lit.int .i64 x).wf = true) := (XOpen.Opens.int Tryd.underlying3 (by kernel_rfl))
  have h := XOpen.Opens.struct (P := Tryd.prog) (t := 26) (f := (fun x : S26 => (x.f0, x.f1, x.f2, x.f3))) (fun p => (⟨p.1, p.2.1, p.2.2.1, p.2.2.2⟩ : S26)) (fun _ => rfl) Tryd.underlying26 (by kernel_rfl) (XOpen.OpensL.cons (by kernel_rfl) (by kernel_rfl) o0_ (XOpen.OpensL.cons (by kernel_rfl) (by kernel_rfl) o1_ (XOpen.OpensL.cons (by kernel_rfl) (by kernel_rfl) o2_ (XOpen.OpensL.one (by kernel_rfl) (by kernel_rfl) o3_))))
  exact h
theorem opens_28 : XOpen.Opens Tryd.prog 28 k28 (fun x => (((Lit.int .i64 x.f0.f0).wf = true) ∧ ((Lit.int .i64 x.f0.f1).wf = true) ∧ ((Lit.int .i64 x.f0.f2).wf = true) ∧ (x.f0.f3.size ≤ 140737488351232)) ∧ (((Lit.int .i64 x.f1.f0).wf = true) ∧ ((x.f1.f1.length * 8 ≤ 140737488351232 ∧ ∀ x7_ ∈ x.f1.f1, (Lit.int .i64 x7_).wf = true)) ∧ ((x.f1.f2.length * 8 ≤ 140737488351232 ∧ ∀ x8_ ∈ x.f1.f2, (Lit.int .i64 x8_).wf = true)) ∧ ((Lit.int .i64 x.f1.f3).wf = true)) ∧ (True)) := by
  have o0_ : XOpen.Opens Tryd.prog 23 k23 (fun x => ((Lit.int .i64 x.f0).wf = true) ∧ ((Lit.int .i64 x.f1).wf = true) ∧ ((Lit.int .i64 x.f2).wf = true) ∧ (x.f3.size ≤ 140737488351232)) := opens_23
  have o1_ : XOpen.Opens Tryd.prog 26 k26 (fun x => ((Lit.int .i64 x.f0).wf = true) ∧ ((x.f1.length * 8 ≤ 140737488351232 ∧ ∀ x5_ ∈ x.f1, (Lit.int .i64 x5_).wf = true)) ∧ ((x.f2.length * 8 ≤ 140737488351232 ∧ ∀ x6_ ∈ x.f2, (Lit.int .i64 x6_).wf = true)) ∧ ((Lit.int .i64 x.f3).wf = true)) := opens_26
  have o2_ : XOpen.Opens Tryd.prog 4 Kd.bool (fun x => True) := (XOpen.Opens.bool Tryd.underlying4 (by kernel_rfl))
  have h := XOpen.Opens.struct (P := Tryd.prog) (t := 28) (f := (fun x : S28 => (x.f0, x.f1, x.f2))) (fun p => (⟨p.1, p.2.1, p.2.2⟩ : S28)) (fun _ => rfl) Tryd.underlying28 (by kernel_rfl) (XOpen.OpensL.cons (by kernel_rfl) (by kernel_rfl) o0_ (XOpen.OpensL.cons (by kernel_rfl) (by kernel_rfl) o1_ (XOpen.OpensL.one (by kernel_rfl) (by kernel_rfl) o2_)))
  exact h
def ren : Go.Shelf.Ren := ⟨fun x => x, fun x => if x = 119 then 82 else if x = 138 then 84 else if x = 139 then 85 else x, fun x => if x = 3 then 0 else 1⟩
theorem uTypes : U8Types Tryd.prog ren := ⟨Tryd.underlying5, Tryd.underlying82, Tryd.underlying84, Tryd.underlying85⟩
theorem uExtra : Go.Proofs.U8Extra Tryd.prog ren := ⟨by kernel_rfl, by kernel_rfl, by kernel_rfl, by kernel_rfl, by kernel_rfl, by kernel_rfl, by kernel_rfl⟩
theorem first_eq : Rows.laid_unicode_utf8_first = Go.Lib.firstData := by kernel_rfl
theorem accept_eq : (Rows.laid_unicode_utf8_acceptRanges : DataW Unit) = Go.Lib.acceptData := by kernel_rfl
theorem tables {W : World} (h : laidMetH Tryd.prog Rows.fnExactGoodSessionRow.laid W) : Lib.Utf8Tabs 0 1 W := by
  rw [MakeChecks.laidMetH_plain _ _ _ (by kernel_rfl)] at h
  have r3 := Go.Lib.laidMet.reads h (n := "unicode/utf8.first") (d := Rows.laid_unicode_utf8_first) (by first | exact .head _ | exact .tail _ (.head _) | exact .tail _ (.tail _ (.head _)) | exact .tail _ (.tail _ (.tail _ (.head _))))
  have r4 := Go.Lib.laidMet.reads h (n := "unicode/utf8.acceptRanges") (d := Rows.laid_unicode_utf8_acceptRanges) (by first | exact .head _ | exact .tail _ (.head _) | exact .tail _ (.tail _ (.head _)) | exact .tail _ (.tail _ (.tail _ (.head _))))
  rw [first_eq] at r3
  rw [accept_eq] at r4
  exact utf8Tabs_of_readsT (ρ := ren) uTypes uExtra r3 r4
set_option maxRecDepth 100000 in
theorem lifted (os : Os) (started : os.Started) (H : Type) (enc : TypeId × Value → H) :
    ReturnsInHanded {} Tryd.checked os 3 .any (fun w args => (Rows.fnExactGoodSessionSpec.pre enc Tryd.prog Tryd.f3 Rows.fnExactGoodSessionRow.domain false w args ∧ laidMetH Tryd.prog Rows.fnExactGoodSessionRow.laid w) ∧ sizedMet enc Tryd.prog Tryd.f3 (OpenSpec.ofChange Rows.fnExactGoodSessionSpec) false w args) (Rows.fnExactGoodSessionSpec.post enc Tryd.prog Tryd.f3 false true false false) := by
  refine returnsInHanded_of_change_and (C := Tryd.checked) (X := fun w _ => laidMetH Tryd.prog Rows.fnExactGoodSessionRow.laid w) (fun _ _ _ hh h => h.of_heap hh) own started (by kernel_rfl) Tryd.func3
    (ChangeSpec.witness_shaped (enc := enc) (C := Tryd.checked) (os := os) (X := fun w _ => laidMetH Tryd.prog Rows.fnExactGoodSessionRow.laid w) false (World.laidAll Tryd.prog os Rows.fnExactGoodSessionRow.laid) #[.agg #[.int .i64 0, .int .i64 0, .int .i64 0, .string ByteArray.empty, .int .i64 0, .slice none 0 0, .slice none 0 0, .int .i64 0, .bool false]] 8 (World.laidAll_os _ _ _)
      (World.shaped_of_ZipB (by kernel_rfl) (by kernel_rfl)) (by kernel_rfl) (by kernel_rfl) (by kernel_rfl)
      (by rw [MakeChecks.laidMetH_plain _ _ _ (by kernel_rfl)]; exact laidMet_laidAll _ (by kernel_rfl) (by kernel_rfl))) ?_
  intro W base args ds gs before hval0 hW hcnd hsz0 hL _
  have hsz : (DataW.weightsEach Tryd.prog (Tryd.f3.params.toList ++ Rows.fnExactGoodSessionSpec.plain.varTypes Tryd.prog) (ds ++ gs)).all (· ≤ reachBytes) = true := hsz0
  have hval : ∀ (j : Nat) t v, Tryd.f3.params[j]? = some t → args[j]? = some v → Value.okWide Tryd.prog W .any base t v := hval0
  have hW' := hW
  obtain ⟨p, q, hA0, hV, rfl, hfz, hnd⟩ := hW
  have hA : DataW.TrodAll enc Tryd.prog W 0 (fun _ => true) true Tryd.f3.params.toList args.toList ds p := hA0
  rw [Tryd.params3] at hA hval hsz
  obtain ⟨v0, vs0, d0, ds0, p0, q0, hargs, rfl, rfl, h0, r0⟩ := trodAll_cons hA
  obtain ⟨rfl, rfl, rfl⟩ := trodAll_nil r0
  obtain rfl : args = #[v0] := by cases args; simp_all
  obtain ⟨rfl, rfl⟩ := trodVars_none hV
  obtain ⟨cs0, rfl, _⟩ := okWide_struct Tryd.underlying28 (hval 0 28 v0 rfl rfl)
  have k0 := h0
  have lt0 : ∀ x ∈ p0, x.block < W.heap.size := by obtain ⟨m, hm⟩ := k0; exact DataW.trod_lt m _ _ _ hm
  obtain ⟨y0, hK0, wf0⟩ := XOpen.Opens.arg opens_28 h0 hsz (j := 0) rfl rfl
  obtain ⟨A0_5, c0_5, A0_6, c0_6, hcs0, hl0_5, hC0_5, hl0_6, hC0_6⟩ := k28_open hK0
  obtain rfl : cs0 = #[.int .i64 y0.f0.f0, .int .i64 y0.f0.f1, .int .i64 y0.f0.f2, .string y0.f0.f3, .int .i64 y0.f1.f0, .slice A0_5 y0.f1.f1.length c0_5, .slice A0_6 y0.f1.f2.length c0_6, .int .i64 y0.f1.f3, .bool y0.f2] := by apply Array.ext'; simpa [Value.cells] using hcs0
  clear hA0 hval0 hsz0 hsz
  obtain ⟨k, h⟩ := Pure.FnExactGoodSession y0.f0.f0 y0.f0.f1 y0.f0.f2 y0.f0.f3 y0.f1.f0 y0.f1.f1 y0.f1.f2 y0.f1.f3 y0.f2 wf0.1.1 wf0.1.2.1 wf0.1.2.2.1 wf0.1.2.2.2 wf0.2.1.1 wf0.2.1.2.1 wf0.2.1.2.2.1 wf0.2.1.2.2.2
  refine (P.laws_FnExactGoodSession.calls k y0.f0.f0 y0.f0.f1 y0.f0.f2 y0.f0.f3 y0.f1.f0 _ _ y0.f1.f1 _ _ y0.f1.f2 y0.f1.f3 y0.f2 true W hC0_5 hl0_5 hC0_6 hl0_6 (tables hL) h).mono fun e W' ⟨he, bel0⟩ => ?_
  have bel : Below W.heap.size W W' := bel0
  subst he
  exact ⟨_, rfl, _, _, _, [], _, [], hW', trodAll_mk1 (shut_bool Tryd.underlying4 _), (trodAll_cons_mk (Below.trod laidOut (by kernel_rfl) (of_decide_eq_true (by kernel_rfl)) k0 bel lt0) trodAll_mk0), rfl, bel.frame _, fun h => by cases h⟩
theorem over : Rows.fnExactGoodSessionRow.holds Tryd.pinned (OpenSpec.ofChange Rows.fnExactGoodSessionSpec) :=
  OpenClaim.holds_of_wide 3 Tryd.f3 rfl rfl rfl rfl rfl rfl rfl ⟨rfl, rfl, rfl, rfl, rfl⟩ rfl rfl rfl rfl rfl (by kernel_rfl) Tryd.func3 (by kernel_rfl)
    (of_decide_eq_true (by kernel_rfl)) (by unfold Func.isWrapper; first | (rw [if_pos (by decide +kernel)]; kernel_rfl) | (rw [if_neg (by decide +kernel)]; exact ⟨rfl, rfl⟩))
    (fun os started H enc _ => lifted os started H enc)
theorem plain (f : FuncId) (fn : Func) (hf : Tryd.pinned.checked.prog.funcNamed "loop.example/g00692/laws.FnExactGoodSession" = some f) (hfn : Tryd.pinned.checked.prog.funcs[f]? = some fn) :
    false = Tryd.pinned.checked.prog.looks [] ∧ ∀ (j : Nat) t, fn.params[j]? = some t → Tryd.pinned.checked.prog.wantsStandIn t = false := by
  obtain rfl : f = 3 := Option.some.inj ((show Tryd.prog.funcNamed "loop.example/g00692/laws.FnExactGoodSession" = some 3 by kernel_rfl).symm.trans hf) |>.symm
  obtain rfl : fn = Tryd.f3 := (Option.some.inj (Tryd.func3.symm.trans hfn)).symm
  refine ⟨by kernel_rfl, fun j t ht => ?_⟩
  rw [Tryd.params3] at ht
  have hm : t ∈ [28] := by simpa using Array.mem_of_getElem? ht
  have hall : ([28].all fun u => !Tryd.prog.wantsStandIn u) = true := by kernel_rfl
  exact (show Tryd.prog.wantsStandIn t = false by simpa using List.all_eq_true.1 hall t hm)
theorem proved : Rows.FnExactGoodSessionCardSaid := Claim7.holds_tied_plain_at .later [] _ _ _ _ over (fun _ h => by cases h) (by kernel_rfl) (fun _ h => by cases h) fnExactGoodSession_row_tie rfl ⟨rfl, rfl⟩ (by kernel_rfl) rfl plain (by kernel_rfl)
#print axioms proved
end Go.Proofs.YtpmdecdomfoaoaaDoor.fnExactGoodSession
namespace Go.Proofs.YtpmdecdomfoaoaaDoor
/-- The row, under a short name, for the claim. -/
theorem fnExactGoodSession_holds : Rows.FnExactGoodSessionCardSaid := fnExactGoodSession.proved
end Go.Proofs.YtpmdecdomfoaoaaDoor
