import Derived.Test.YtliafedmhgkciaaDoorCP0
import Derived.Test.YtliafedmhgkciaaDoorC1
import Derived.Test.YtliafedmhgkciaaDoorC2
namespace Go.Proofs.YtliafedmhgkciaaDoor.P
open Go.RowKit Go.Proofs.YtliafedmhgkciaaDoorW.PrintWords Go.Proofs.YtliafedmhgkciaaDoorW.PrintLast Go.Proofs.YtliafedmhgkciaaDoorW.PrintMore
attribute [local go_sem] max2_int min2_int max_two min_two max_three min_three max_four min_four   -- for this text's walks alone
set_option linter.unusedVariables false
set_option linter.unusedSimpArgs false

set_option maxHeartbeats 16000000
set_option maxRecDepth 1000000

theorem Zb89_0 {p : Prop} (h : p := by repeat (first | (with_reducible first | exact HK.out | apply KeepBut.set_ | apply keep_drewN | apply keep_drew | apply keep_alloc) | exact HK.out)) : p := h
theorem Zb89_1 {p : Prop} (h : p := by repeat (first | (with_reducible first | exact HI0.out | apply IsS64.alloc | apply IsS64.drewN | apply IsS64.drew | apply IsS64.set_1 | apply IsS64.set_2) | exact HI0.out)) : p := h
theorem Zb89_2 {p : Prop} (h : p := by repeat (first | (with_reducible first | exact HB.out | apply below_alloc | apply pw_below_drewN | apply below_drew1 | refine below_set ?_ (IsS64.ge HI0.out)) | exact HB.out)) : p := h
def spec_l1Cur_en.f (s0_0 : List Int) (s0_1 : Int) (s0_2 : Int) : Option (Int × Int × Int) := (spec_l1Cur_among.f s0_0 s0_1 s0_2 (([1, 1, 2, 3, 4, 5, 5, 1, 2, 3, 5, 0, 6] : List Int))).bind fun bt332 => (some (bt332.1, bt332.2.1, bt332.2.2))
theorem spec_l1Cur_en.calls (g : Nat) (s0_0 : List Int) (s0_1 : Int) (s0_2 : Int) (r1 : Int) (r2 : Int) (r3 : Int) (w0 w : World) (hI : IsS64 w0 w g s0_0 s0_1 s0_2) (hB : Below w0.heap.size w0 w) (h : spec_l1Cur_en.f s0_0 s0_1 s0_2 = some (r1, r2, r3)) :
  Calls Tryd.prog 89 #[.pointer (some ⟨g, 0, none⟩)] w fun e w' => e = .returned (.int .i64 r1) ∧ IsS64 w0 w' g s0_0 r2 r3 ∧ Below w0.heap.size w0 w' ∧ KeepBut w w' g none := by
 have HI0 := Aside0.mk hI
 have HK := Aside0.mk (KeepBut.refl w g none)
 have HL := Aside0.mk hB.size
 clear hI
 have HW0 := Aside0.mk hB.size
 have HB := Aside0.mk hB
 clear hB
 have H : ((spec_l1Cur_among.f s0_0 s0_1 s0_2 (([1, 1, 2, 3, 4, 5, 5, 1, 2, 3, 5, 0, 6] : List Int))).bind fun bt332 => (some (bt332.1, bt332.2.1, bt332.2.2))) = some (r1, r2, r3) := h
 clear h
 obtain ⟨y329, hy329⟩ : ∃ y_ : List Int, y_ = (([1, 1, 2, 3, 4, 5, 5, 1, 2, 3, 5, 0, 6] : List Int)) := ⟨_, rfl⟩
 replace H : ((spec_l1Cur_among.f s0_0 s0_1 s0_2 y329).bind fun bt332 => (some (bt332.1, bt332.2.1, bt332.2.2))) = some (r1, r2, r3) := by first | (rw [hy329]; with_reducible exact H) | (have H2_ := (Option.bind_some _ _).symm.trans H; rw [hy329]; with_reducible exact H2_) | (have H2_ := (Option.bind_some _ _).symm.trans H; with_reducible exact H2_) | with_reducible exact H | (rw [hy329]; exact H) | exact H
 have Ny329 := Aside0.mk hy329
 clear hy329
 replace H := Option.bind_eq_some_iff.mp H
 obtain ⟨⟨t332, t333, t334⟩, A20, H⟩ := H
 replace H : (some (t332, t333, t334)) = some (r1, r2, r3) := H
 have A2 := Aside0.mk A20
 clear A20
 simp only [Option.some.injEq, Prod.mk.injEq] at H
 obtain ⟨rfl, rfl, rfl⟩ := H
 go_enter Tryd.func89, Tryd.ntmps89
 go_wp2_with (first | ((with_reducible refine gate_dst (N := 4) rfl ?_); refine Kd.R_lit (Kd.int .i64) _ 3 ?hg (N := 4) ?hd (xs := ([1, 1, 2, 3, 4, 5, 5, 1, 2, 3, 5, 0, 6] : List Int)) (inner := [.int .i64 1, .int .i64 1, .int .i64 2, .int .i64 3, .int .i64 4, .int .i64 5, .int .i64 5, .int .i64 1, .int .i64 2, .int .i64 3, .int .i64 5, .int .i64 0, .int .i64 6]) (ok := fun _ => True) (okp := fun _ => True) ?hr ?hp (fun _ hk => hk) trivial (Below.refl _ _) (Nat.le_refl _) (by simp) ?_; (case hd => rfl); (case hg => rfl); (case hr => first | (go_simp; done) | (go_simp; rfl)); (case hp => exact (Reps.one (show Kd.M (Kd.int .i64) _ _ _ 1 [.int .i64 1] from rfl) (Reps.one (show Kd.M (Kd.int .i64) _ _ _ 1 [.int .i64 1] from rfl) (Reps.one (show Kd.M (Kd.int .i64) _ _ _ 2 [.int .i64 2] from rfl) (Reps.one (show Kd.M (Kd.int .i64) _ _ _ 3 [.int .i64 3] from rfl) (Reps.one (show Kd.M (Kd.int .i64) _ _ _ 4 [.int .i64 4] from rfl) (Reps.one (show Kd.M (Kd.int .i64) _ _ _ 5 [.int .i64 5] from rfl) (Reps.one (show Kd.M (Kd.int .i64) _ _ _ 5 [.int .i64 5] from rfl) (Reps.one (show Kd.M (Kd.int .i64) _ _ _ 1 [.int .i64 1] from rfl) (Reps.one (show Kd.M (Kd.int .i64) _ _ _ 2 [.int .i64 2] from rfl) (Reps.one (show Kd.M (Kd.int .i64) _ _ _ 3 [.int .i64 3] from rfl) (Reps.one (show Kd.M (Kd.int .i64) _ _ _ 5 [.int .i64 5] from rfl) (Reps.one (show Kd.M (Kd.int .i64) _ _ _ 0 [.int .i64 0] from rfl) (Reps.one (show Kd.M (Kd.int .i64) _ _ _ 6 [.int .i64 6] from rfl) (Reps.none _ _))))))))))))))); intro v330 w3 ho4 hb hg_ hnew_; clear hg_ hnew_; (first | rw [← Ny329.out] at ho4 | (simp only [Int.reduceToNat] at ho4; rw [← Ny329.out] at ho4)); have n0_ := Aside0.mk (Kd.R_lower ho4 (keep_size (w := w) (g := g) (row := none) Zb89_0)); have n1_ := Aside0.mk (IsS64.below Zb89_1 hb); have n2_ := Aside0.mk (KeepBut.trans Zb89_0 (KeepBut.of_below hb g none) (.inl rfl)); have n3_ := Aside0.mk (below_step Zb89_2 hb); clear HI0; clear HK; clear HB; have HO331 := n0_; have HI0 := n1_; have HK := n2_; have HB := n3_; clear n0_ n1_ n2_ n3_; clear hb ho4; obtain ⟨Ao5, co5, eo5⟩ := Kd.R_slice HO331.out; subst eo5) | ((with_reducible refine gate_callee (f := 87) rfl ?_); refine goesL_ (some 5) rfl rfl Tryd.func87 (by kernel_rfl) rfl #[.pointer (some ⟨g, 0, none⟩), .slice Ao5 y329.length co5] rfl (by (try simp only [List.map_toArray, List.map_cons, List.map_nil]); first | done | rfl | (simp only [List.length_drop, List.length_take]; rfl)) ?_; (with_reducible refine (spec_l1Cur_among.calls g s0_0 s0_1 s0_2 _ _ y329 t332 t333 t334 w0 _ ?side1 ?side2 ?side3 ?side4 ?side5 A2.out).mono ?_); (case side1 => repeat (first | (with_reducible first | exact HI0.out | apply IsS64.alloc | apply IsS64.drewN | apply IsS64.drew | apply IsS64.set_1 | apply IsS64.set_2) | exact HI0.out)); (case side2 => repeat (first | (with_reducible first | exact HB.out | apply below_alloc | apply pw_below_drewN | apply below_drew1 | refine below_set ?_ (IsS64.ge HI0.out)) | exact HB.out)); (case side3 => repeat (first | exact (Kd.R_reads' HO331.out).2.2 | (with_reducible refine Kd.C_alloc ?_ _) | (with_reducible refine Kd.C_drewN ?_ _) | (with_reducible refine Kd.C_drew ?_))); (case side4 => exact (Kd.R_reads' HO331.out).2.1); (case side5 => exact far_slice (IsS64.own_ne HI0.out HO331.out (by decide))); rintro e w6 ⟨rfl, hi, hb, hk⟩; refine ⟨_, rfl, ?_⟩; have n0_ := Aside0.mk (Kd.R_mono (Kd.R_keep (IsS64.apart (show IsS64 w0 _ g s0_0 s0_1 s0_2 from Zb89_1) (by (with_reducible repeat (first | apply Kd.R_alloc | apply Kd.R_drewN | apply Kd.R_drew)); exact HO331.out) (by decide)) hk (fun _ h => h.2)) (fun _ h => h.1)); have n1_ := Aside0.mk (KeepBut.trans Zb89_0 hk (.inl rfl)); have n2_ := Aside0.mk (hb); have n3_ := Aside0.mk (hi); clear HO331; clear HK; clear HB; clear HI0; have HO331 := n0_; have HK := n1_; have HB := n2_; have HI0 := n3_; clear n0_ n1_ n2_ n3_; (try clear hb); (try clear hb2); (try clear hk); (try clear hi)))
 go_ret
 exact ⟨Sw.e, Zb89_1, Zb89_2, Zb89_0⟩

theorem Zb49_0 {p : Prop} (h : p := by repeat (first | (with_reducible first | exact HK.out | apply KeepBut.set_ | apply keep_drewN | apply keep_drew | apply keep_alloc | refine keep_far ?_ GW335.out _ | refine keep_far ?_ GW344.out _ | refine keep_far ?_ GW359.out _) | exact HK.out)) : p := h
theorem Zb49_1 {p : Prop} (h : p := by repeat (first | (with_reducible first | exact HI0.out | apply IsS64.alloc | apply IsS64.drewN | apply IsS64.drew | apply IsS64.set_1 | apply IsS64.set_2 | refine IsS64.far ?_ NB0_335.out _ | refine IsS64.far ?_ NB0_344.out _ | refine IsS64.far ?_ NB0_359.out _) | exact HI0.out)) : p := h
theorem Zb49_2 {p : Prop} (h : p := by repeat (first | (with_reducible first | exact HB.out | apply below_alloc | apply pw_below_drewN | apply below_drew1 | refine below_set ?_ (IsS64.ge HI0.out) | refine below_set ?_ GE335.out | refine below_set ?_ GE344.out | refine below_set ?_ GE359.out) | exact HB.out)) : p := h
theorem Zb49_3 {p : Prop} (h : p := by repeat (first | (with_reducible first | exact HK.out | apply KeepBut.set_ | apply keep_drewN | apply keep_drew | apply keep_alloc | refine keep_far ?_ GW335.out _ | refine keep_far ?_ GW344.out _) | exact HK.out)) : p := h
theorem Zb49_4 {p : Prop} (h : p := by repeat (first | (with_reducible first | exact HI0.out | apply IsS64.alloc | apply IsS64.drewN | apply IsS64.drew | apply IsS64.set_1 | apply IsS64.set_2 | refine IsS64.far ?_ NB0_335.out _ | refine IsS64.far ?_ NB0_344.out _) | exact HI0.out)) : p := h
theorem Zb49_5 {p : Prop} (h : p := by (try simp only [List.map_toArray, List.map_cons, List.map_nil]); first | done | rfl | (simp only [List.length_drop, List.length_take]; rfl)) : p := h
theorem Zb49_6 {p : Prop} (h : p := by repeat (first | (with_reducible first | exact HB.out | apply below_alloc | apply pw_below_drewN | apply below_drew1 | refine below_set ?_ (IsS64.ge HI0.out) | refine below_set ?_ GE335.out | refine below_set ?_ GE344.out) | exact HB.out)) : p := h
theorem Zb49_7 {p : Prop} (h : p := by repeat (first | (with_reducible first | exact HK.out | apply KeepBut.set_ | apply keep_drewN | apply keep_drew | apply keep_alloc | refine keep_far ?_ GW335.out _) | exact HK.out)) : p := h
theorem Zb49_8 {p : Prop} (h : p := by repeat (first | (with_reducible first | exact HI0.out | apply IsS64.alloc | apply IsS64.drewN | apply IsS64.drew | apply IsS64.set_1 | apply IsS64.set_2 | refine IsS64.far ?_ NB0_335.out _) | exact HI0.out)) : p := h
theorem Zb49_9 {p : Prop} (h : p := by repeat (first | (with_reducible first | exact HI0.out | apply IsS64.alloc | apply IsS64.drewN | apply IsS64.drew | apply IsS64.set_1 | apply IsS64.set_2) | exact HI0.out)) : p := h
theorem Zb49_10 {p : Prop} (h : p := by repeat (first | (with_reducible first | exact HK.out | apply KeepBut.set_ | apply keep_drewN | apply keep_drew | apply keep_alloc) | exact HK.out)) : p := h
theorem Zb49_11 {p : Prop} (h : p := by repeat (first | (with_reducible first | exact HB.out | apply below_alloc | apply pw_below_drewN | apply below_drew1 | refine below_set ?_ (IsS64.ge HI0.out) | refine below_set ?_ GE335.out) | exact HB.out)) : p := h
theorem Zb49_12 {p : Prop} (h : p := by simp only [putAll, Act.put, List.setIfInBounds_toArray, List.set_cons_zero, List.set_cons_succ]) : p := h
mutual
def spec_l1Cur_decoder.j0 : Nat → Bool → List Int → Int → Int → Int → Int → Int → ByteArray → Int → Int → Int → ByteArray → Option (Int × Int × Int × ByteArray × Int × Int)
 | 0, _, _, _, _, _, _, _, _, _, _, _, _ => none
 | k + 1, x29, x1000, x1001, x1002, x345000, x345001, x345002, x345003, x360000, x360001, x360002, x360003 => if x29 = true then (spec_l1Cur_decoder.j1 k x1000 x1001 x1002 x360000 x360001 x360002 x360003) else (spec_l1Cur_decoder.j1 k x1000 x1001 x1002 x345000 x345001 x345002 x345003)
def spec_l1Cur_decoder.j1 : Nat → List Int → Int → Int → Int → Int → Int → ByteArray → Option (Int × Int × Int × ByteArray × Int × Int)
 | 0, _, _, _, _, _, _, _ => none
 | k + 1, x1000, x1001, x1002, x345000, x345001, x345002, x345003 => (spec_l1Cur_pick.f x1000 x1001 x1002 40).bind fun bt360 => (if bt360.1 = 0 then (some (x345000, x345001, x345002, (⟨#[97]⟩ : ByteArray), bt360.2.1, bt360.2.2)) else (if bt360.1 = 1 then ((spec_l1Cur_pick.f x1000 bt360.2.1 bt360.2.2 3).bind fun bt363 => (some (x345000, bt363.1, x345002, x345003, bt363.2.1, bt363.2.2))) else (if bt360.1 = 2 then ((spec_l1Cur_among.f x1000 bt360.2.1 bt360.2.2 (([(-1), 3, 1000, 1001] : List Int))).bind fun bt369 => (some (x345000, x345001, bt369.1, x345003, bt369.2.1, bt369.2.2))) else (some (x345000, x345001, x345002, x345003, bt360.2.1, bt360.2.2)))))
end
def spec_l1Cur_decoder.f (k : Nat) (s0_0 : List Int) (s0_1 : Int) (s0_2 : Int) : Option (Int × Int × Int × ByteArray × Int × Int) := (spec_l1Cur_en.f s0_0 s0_1 s0_2).bind fun bt336 => ((spec_NewDecoder.f bt336.1).bind fun bt339 => ((spec_l1Cur_coded.f k s0_0 bt336.2.1 bt336.2.2 bt339.1).bind fun bt345 => ((spec_FeedDecoder.f k bt339.1 bt339.2.1 bt339.2.2.1 bt339.2.2.2.1 bt345.1).bind fun bt348 => (if bt339.2.2.2.2 = true then (spec_l1Cur_decoder.j0 k bt348.2.2.2.2.2.2 s0_0 bt345.2.1 bt345.2.2 bt339.1 bt339.2.1 bt339.2.2.1 bt339.2.2.2.1 bt348.1 bt348.2.1 bt348.2.2.1 bt348.2.2.2.1) else (spec_l1Cur_decoder.j0 k false s0_0 bt345.2.1 bt345.2.2 bt339.1 bt339.2.1 bt339.2.2.1 bt339.2.2.2.1 bt348.1 bt348.2.1 bt348.2.2.1 bt348.2.2.2.1)))))
theorem spec_l1Cur_decoder.mono_l : ∀ k, (∀ y0 y1 y2 y3 y4 y5 y6 y7 y8 y9 y10 y11, LeO (spec_l1Cur_decoder.j0 k y0 y1 y2 y3 y4 y5 y6 y7 y8 y9 y10 y11) (spec_l1Cur_decoder.j0 (k + 1) y0 y1 y2 y3 y4 y5 y6 y7 y8 y9 y10 y11)) ∧ (∀ y0 y1 y2 y3 y4 y5 y6, LeO (spec_l1Cur_decoder.j1 k y0 y1 y2 y3 y4 y5 y6) (spec_l1Cur_decoder.j1 (k + 1) y0 y1 y2 y3 y4 y5 y6))
 | 0 => ⟨fun _ _ _ _ _ _ _ _ _ _ _ _ r h => by simp [spec_l1Cur_decoder.j0] at h, fun _ _ _ _ _ _ _ r h => by simp [spec_l1Cur_decoder.j1] at h⟩
 | k + 1 => by
  obtain ⟨ih0, ih1⟩ := spec_l1Cur_decoder.mono_l k
  refine ⟨?_, ?_⟩
  ·intro y0 y1 y2 y3 y4 y5 y6 y7 y8 y9 y10 y11
   unfold spec_l1Cur_decoder.j0
   with_reducible repeat' first | exact ih0 _ _ _ _ _ _ _ _ _ _ _ _ | exact ih1 _ _ _ _ _ _ _ | exact spec_FeedDecoder.mono _ _ _ _ _ _ | exact spec_l1Cur_coded.mono _ _ _ _ _ | exact LeO.refl _ | exact LeO.none _ | refine LeO.ite ?_ ?_ | refine LeO.bind ?_ (fun _ => ?_)
  ·intro y0 y1 y2 y3 y4 y5 y6
   unfold spec_l1Cur_decoder.j1
   with_reducible repeat' first | exact ih0 _ _ _ _ _ _ _ _ _ _ _ _ | exact ih1 _ _ _ _ _ _ _ | exact spec_FeedDecoder.mono _ _ _ _ _ _ | exact spec_l1Cur_coded.mono _ _ _ _ _ | exact LeO.refl _ | exact LeO.none _ | refine LeO.ite ?_ ?_ | refine LeO.bind ?_ (fun _ => ?_)
theorem spec_l1Cur_decoder.mono : ∀ a0 a1 a2 k, LeO (spec_l1Cur_decoder.f k a0 a1 a2) (spec_l1Cur_decoder.f (k + 1) a0 a1 a2) := by
 intro a0 a1 a2 k
 obtain ⟨ih0, ih1⟩ := spec_l1Cur_decoder.mono_l k
 unfold spec_l1Cur_decoder.f
 with_reducible repeat' first | exact ih0 _ _ _ _ _ _ _ _ _ _ _ _ | exact ih1 _ _ _ _ _ _ _ | exact spec_FeedDecoder.mono _ _ _ _ _ _ | exact spec_l1Cur_coded.mono _ _ _ _ _ | exact LeO.refl _ | exact LeO.none _ | refine LeO.ite ?_ ?_ | refine LeO.bind ?_ (fun _ => ?_)
def spec_l1Cur_decoder.T2 : Bool × List (List Nat × List Nat) := (true, [([], []), ([], []), ([], []), ([2], [2]), ([1, 3], [1, 3]), ([0, 4, 4], [0, 4]), ([5], [5]), ([6], [6]), ([6], [6]), ([6], [6]), ([6], [6]), ([], []), ([11, 7, 5, 0, 1, 2, 3, 4, 5, 6, 7, 11], [7, 11]), ([8, 12, 0, 1, 2, 3, 4, 5, 6, 7, 8, 11, 12], [8]), ([9, 13, 0, 1, 2, 3, 4, 5, 6, 7, 8, 9, 11, 12, 13], [9]), ([10, 14, 0, 1, 2, 3, 4, 5, 6, 7, 8, 9, 10, 11, 12, 13, 14], [10])])
def spec_l1Cur_decoder.B2 : List Nat := [0, 0, 0, 4, 14, 31, 63, 127, 127, 127, 127, 0, 2303, 6655, 15359, 32767]
theorem spec_l1Cur_decoder.tab2 : rtab .any (opsOf Tryd.f49 2) = spec_l1Cur_decoder.T2 := by kernel_rfl
theorem spec_l1Cur_decoder.bits2 : waitsOk spec_l1Cur_decoder.T2.2 spec_l1Cur_decoder.B2 = true := by kernel_rfl
theorem spec_l1Cur_decoder.calls (k : Nat) (g : Nat) (s0_0 : List Int) (s0_1 : Int) (s0_2 : Int) (r1 : Int) (r2 : Int) (r3 : Int) (r4 : ByteArray) (r5 : Int) (r6 : Int) (w0 w : World) (hI : IsS64 w0 w g s0_0 s0_1 s0_2) (hB : Below w0.heap.size w0 w) (h : spec_l1Cur_decoder.f k s0_0 s0_1 s0_2 = some (r1, r2, r3, r4, r5, r6)) :
  Calls Tryd.prog 49 #[.pointer (some ⟨g, 0, none⟩)] w fun e w' => e = .returned (.agg #[.int .i64 r1, .int .i64 r2, .int .i64 r3, .string r4]) ∧ IsS64 w0 w' g s0_0 r5 r6 ∧ Below w0.heap.size w0 w' ∧ KeepBut w w' g none := by
 have hu25 := Tryd.underlying25
 have HI0 := Aside0.mk hI
 have HK := Aside0.mk (KeepBut.refl w g none)
 have HL := Aside0.mk hB.size
 clear hI
 have HW0 := Aside0.mk hB.size
 have HB := Aside0.mk hB
 clear hB
 have H : ((spec_l1Cur_en.f s0_0 s0_1 s0_2).bind fun bt336 => ((spec_NewDecoder.f bt336.1).bind fun bt339 => ((spec_l1Cur_coded.f k s0_0 bt336.2.1 bt336.2.2 bt339.1).bind fun bt345 => ((spec_FeedDecoder.f k bt339.1 bt339.2.1 bt339.2.2.1 bt339.2.2.2.1 bt345.1).bind fun bt348 => (if bt339.2.2.2.2 = true then (spec_l1Cur_decoder.j0 k bt348.2.2.2.2.2.2 s0_0 bt345.2.1 bt345.2.2 bt339.1 bt339.2.1 bt339.2.2.1 bt339.2.2.2.1 bt348.1 bt348.2.1 bt348.2.2.1 bt348.2.2.2.1) else (spec_l1Cur_decoder.j0 k false s0_0 bt345.2.1 bt345.2.2 bt339.1 bt339.2.1 bt339.2.2.1 bt339.2.2.2.1 bt348.1 bt348.2.1 bt348.2.2.1 bt348.2.2.2.1)))))) = some (r1, r2, r3, r4, r5, r6) := h
 clear h
 replace H := Option.bind_eq_some_iff.mp H
 obtain ⟨⟨t336, t337, t338⟩, A20, H⟩ := H
 replace H : ((spec_NewDecoder.f t336).bind fun bt339 => ((spec_l1Cur_coded.f k s0_0 t337 t338 bt339.1).bind fun bt345 => ((spec_FeedDecoder.f k bt339.1 bt339.2.1 bt339.2.2.1 bt339.2.2.2.1 bt345.1).bind fun bt348 => (if bt339.2.2.2.2 = true then (spec_l1Cur_decoder.j0 k bt348.2.2.2.2.2.2 s0_0 bt345.2.1 bt345.2.2 bt339.1 bt339.2.1 bt339.2.2.1 bt339.2.2.2.1 bt348.1 bt348.2.1 bt348.2.2.1 bt348.2.2.2.1) else (spec_l1Cur_decoder.j0 k false s0_0 bt345.2.1 bt345.2.2 bt339.1 bt339.2.1 bt339.2.2.1 bt339.2.2.2.1 bt348.1 bt348.2.1 bt348.2.2.1 bt348.2.2.2.1))))) = some (r1, r2, r3, r4, r5, r6) := H
 have A2 := Aside0.mk A20
 clear A20
 replace H := Option.bind_eq_some_iff.mp H
 obtain ⟨⟨t339, t340, t341, t342, t343⟩, A30, H⟩ := H
 replace H : ((spec_l1Cur_coded.f k s0_0 t337 t338 t339).bind fun bt345 => ((spec_FeedDecoder.f k t339 t340 t341 t342 bt345.1).bind fun bt348 => (if t343 = true then (spec_l1Cur_decoder.j0 k bt348.2.2.2.2.2.2 s0_0 bt345.2.1 bt345.2.2 t339 t340 t341 t342 bt348.1 bt348.2.1 bt348.2.2.1 bt348.2.2.2.1) else (spec_l1Cur_decoder.j0 k false s0_0 bt345.2.1 bt345.2.2 t339 t340 t341 t342 bt348.1 bt348.2.1 bt348.2.2.1 bt348.2.2.2.1)))) = some (r1, r2, r3, r4, r5, r6) := H
 have A3 := Aside0.mk A30
 clear A30
 replace H := Option.bind_eq_some_iff.mp H
 obtain ⟨⟨t345, t346, t347⟩, A40, H⟩ := H
 replace H : ((spec_FeedDecoder.f k t339 t340 t341 t342 t345).bind fun bt348 => (if t343 = true then (spec_l1Cur_decoder.j0 k bt348.2.2.2.2.2.2 s0_0 t346 t347 t339 t340 t341 t342 bt348.1 bt348.2.1 bt348.2.2.1 bt348.2.2.2.1) else (spec_l1Cur_decoder.j0 k false s0_0 t346 t347 t339 t340 t341 t342 bt348.1 bt348.2.1 bt348.2.2.1 bt348.2.2.2.1))) = some (r1, r2, r3, r4, r5, r6) := H
 have A4 := Aside0.mk A40
 clear A40
 replace H := Option.bind_eq_some_iff.mp H
 obtain ⟨⟨t348, t349, t350, t351, t352, t355, t358⟩, A50, H⟩ := H
 replace H : (if t343 = true then (spec_l1Cur_decoder.j0 k t358 s0_0 t346 t347 t339 t340 t341 t342 t348 t349 t350 t351) else (spec_l1Cur_decoder.j0 k false s0_0 t346 t347 t339 t340 t341 t342 t348 t349 t350 t351)) = some (r1, r2, r3, r4, r5, r6) := H
 have A5 := Aside0.mk A50
 clear A50
 have HC6 := Aside0.mk H
 clear H
 go_enter Tryd.func49, Tryd.ntmps49
 try go_wp2_with (first | ((with_reducible refine gate_dst (N := 2) rfl ?_); refine box_event ?hg (N := 2) ?hd (cs := #[.int .i64 0, .int .i64 0, .int .i64 0, .string (⟨#[]⟩ : ByteArray)]) (t := 25) ?hr ?_; (case hd => rfl); (case hg => rfl); (case hr => first | (go_simp; done) | (go_simp; rfl)); intro gb335 hg w7 hbox hb; have n0_ := Aside0.mk (IsS64.below Zb49_9 hb); have n1_ := Aside0.mk (KeepBut.trans Zb49_10 (KeepBut.of_below hb g none) (.inl rfl)); have n2_ := Aside0.mk (below_step (by repeat (first | (with_reducible first | exact HB.out | apply below_alloc | apply pw_below_drewN | apply below_drew1 | refine below_set ?_ (IsS64.ge HI0.out)) | exact HB.out)) hb); have n3_ := Aside0.mk (hbox); have n4_ := Aside0.mk ((by rw [hg]; exact (keep_size (w := w) (g := g) (row := none) Zb49_10) : w.heap.size ≤ gb335)); have n5_ := Aside0.mk ((Nat.le_trans HW0.out (by rw [hg]; exact (keep_size (w := w) (g := g) (row := none) Zb49_10) : w.heap.size ≤ gb335) : w0.heap.size ≤ gb335)); have n6_ := Aside0.mk ((by rw [hg]; exact Nat.ne_of_lt (IsS64.lt (show IsS64 w0 _ g s0_0 s0_1 s0_2 from Zb49_9)) : g ≠ gb335)); have n7_ := Aside0.mk ((by rw [hg]; exact Nat.ne_of_gt (IsS64.lt (show IsS64 w0 _ g s0_0 s0_1 s0_2 from Zb49_9)) : gb335 ≠ g)); clear HI0; clear HK; clear HB; have HI0 := n0_; have HK := n1_; have HB := n2_; have BK335 := n3_; have GW335 := n4_; have GE335 := n5_; have NB0_335 := n6_; have NB335_0 := n7_; clear n0_ n1_ n2_ n3_ n4_ n5_ n6_ n7_; clear hb hbox hg) | ((with_reducible refine gate_callee (f := 89) rfl ?_); refine goesL_ (some 11) rfl rfl Tryd.func89 (by kernel_rfl) rfl #[.pointer (some ⟨g, 0, none⟩)] rfl Zb49_5 ?_; (with_reducible refine (spec_l1Cur_en.calls g s0_0 s0_1 s0_2 t336 t337 t338 w0 _ ?side1 ?side2 A2.out).mono ?_); (case side1 => repeat (first | (with_reducible first | exact HI0.out | apply IsS64.alloc | apply IsS64.drewN | apply IsS64.drew | apply IsS64.set_1 | apply IsS64.set_2 | refine IsS64.far ?_ NB0_335.out _) | exact HI0.out)); (case side2 => repeat (first | (with_reducible first | exact HB.out | apply below_alloc | apply pw_below_drewN | apply below_drew1 | refine below_set ?_ (IsS64.ge HI0.out) | refine below_set ?_ GE335.out) | exact HB.out)); rintro e w8 ⟨rfl, hi, hb, hk⟩; refine ⟨_, rfl, ?_⟩; replace BK335 := Aside0.mk (KeepBut.blk hk (g' := gb335) (o := .cells #[.int .i64 0, .int .i64 0, .int .i64 0, .string (⟨#[]⟩ : ByteArray)] 25 (0, 0)) (Sw.bk BK335.out) NB335_0.out (by simp)); replace HK := Aside0.mk (KeepBut.trans Zb49_7 hk (.inl rfl)); replace HB := Aside0.mk (hb); replace HI0 := Aside0.mk (hi); (try clear hb); (try clear hb2); (try clear hk); (try clear hi)) | ((with_reducible refine gate_callee (f := 48) rfl ?_); refine goesL_ (some 12) rfl rfl Tryd.func48 (by kernel_rfl) rfl #[.int .i64 t336] rfl Zb49_5 ?_; (with_reducible refine (spec_NewDecoder.calls t336 t339 t340 t341 t342 t343 _ A3.out).mono ?_); rintro e w9 ⟨rfl, hb⟩; refine ⟨_, rfl, ?_⟩; replace BK335 := Aside0.mk (Sw.bl BK335.out hb); replace HK := Aside0.mk (KeepBut.trans Zb49_7 (KeepBut.of_below hb g none) (.inl rfl)); replace HB := Aside0.mk (below_step Zb49_11 hb); replace HI0 := Aside0.mk (IsS64.below Zb49_8 hb); (try clear hb); (try clear hb2); (try clear hk); (try clear hi)) | ((with_reducible refine gate_dst (N := 3) rfl ?_); refine box_event ?hg (N := 3) ?hd (cs := #[.int .i64 0, .int .i64 0, .int .i64 0, .string (⟨#[]⟩ : ByteArray)]) (t := 25) ?hr ?_; (case hd => rfl); (case hg => rfl); (case hr => first | (go_simp; done) | (go_simp; rfl)); intro gb344 hg w10 hbox hb; have n0_ := Aside0.mk (IsS64.below Zb49_8 hb); have n1_ := Aside0.mk (Sw.bl BK335.out hb); have n2_ := Aside0.mk (KeepBut.trans Zb49_7 (KeepBut.of_below hb g none) (.inl rfl)); have n3_ := Aside0.mk (below_step Zb49_11 hb); have n4_ := Aside0.mk (hbox); have n5_ := Aside0.mk ((by rw [hg]; exact (keep_size (w := w) (g := g) (row := none) Zb49_7) : w.heap.size ≤ gb344)); have n6_ := Aside0.mk ((Nat.le_trans HW0.out (by rw [hg]; exact (keep_size (w := w) (g := g) (row := none) Zb49_7) : w.heap.size ≤ gb344) : w0.heap.size ≤ gb344)); have n7_ := Aside0.mk (Sw.nl hg BK335.out); have n8_ := Aside0.mk (Sw.ng hg BK335.out); have n9_ := Aside0.mk ((by rw [hg]; exact Nat.ne_of_lt (IsS64.lt (show IsS64 w0 _ g s0_0 t337 t338 from Zb49_8)) : g ≠ gb344)); have n10_ := Aside0.mk ((by rw [hg]; exact Nat.ne_of_gt (IsS64.lt (show IsS64 w0 _ g s0_0 t337 t338 from Zb49_8)) : gb344 ≠ g)); clear HI0; clear BK335; clear HK; clear HB; have HI0 := n0_; have BK335 := n1_; have HK := n2_; have HB := n3_; have BK344 := n4_; have GW344 := n5_; have GE344 := n6_; have NB335_344 := n7_; have NB344_335 := n8_; have NB0_344 := n9_; have NB344_0 := n10_; clear n0_ n1_ n2_ n3_ n4_ n5_ n6_ n7_ n8_ n9_ n10_; clear hb hbox hg; have hnb11 := NB344_335.out; have hnc11 := NB335_344.out; have hnb12 := NB344_0.out; have hnc12 := NB0_344.out; obtain ⟨hcz13_0, hcz13_1, hcz13_2, hcz13_3⟩ := Sw.cz4 BK344.out; obtain ⟨hfz13_0, hfz13_1, hfz13_2, hfz13_3⟩ := Sw.fz4 BK344.out))
 generalize hq_ : ((((w10.setCell ⟨gb344, 0, none⟩ (.int .i64 t339)).setCell ⟨gb344, 1, none⟩ (.int .i64 t340)).setCell ⟨gb344, 2, none⟩ (.int .i64 t341)).setCell ⟨gb344, 3, none⟩ (.string t342)) = w14
 replace BK335 : Aside0 (w14.heap[gb335]? = some (.cells #[.int .i64 0, .int .i64 0, .int .i64 0, .string (⟨#[]⟩ : ByteArray)] 25 (0, 0))) := ⟨by rw [← hq_]; exact Sw.bf BK335.out NB335_344.out⟩
 replace BK344 : Aside0 (w14.heap[gb344]? = some (.cells #[.int .i64 t339, .int .i64 t340, .int .i64 t341, .string t342] 25 (0, 0))) := ⟨by rw [← hq_]; exact Sw.bp (Sw.p0_1_2_3 BK344.out)⟩
 replace HK : Aside0 (KeepBut w w14 g none) := ⟨by rw [← hq_]; repeat (first | (with_reducible first | exact HK.out | apply KeepBut.set_ | apply keep_drewN | apply keep_drew | apply keep_alloc | refine keep_far ?_ GW335.out _ | refine keep_far ?_ GW344.out _) | exact HK.out)⟩
 replace HB : Aside0 (Below w0.heap.size w0 w14) := ⟨by rw [← hq_]; repeat (first | (with_reducible first | exact HB.out | apply below_alloc | apply pw_below_drewN | apply below_drew1 | refine below_set ?_ (IsS64.ge HI0.out) | refine below_set ?_ GE335.out | refine below_set ?_ GE344.out) | exact HB.out)⟩
 replace HI0 : Aside0 (IsS64 w0 w14 g s0_0 t337 t338) := ⟨by rw [← hq_]; repeat (first | (with_reducible first | exact HI0.out | apply IsS64.alloc | apply IsS64.drewN | apply IsS64.drew | apply IsS64.set_1 | apply IsS64.set_2 | refine IsS64.far ?_ NB0_335.out _ | refine IsS64.far ?_ NB0_344.out _) | exact HI0.out)⟩
 clear hq_
 replace BK335 := Aside0.mk (blk_drew BK335.out)
 replace BK344 := Aside0.mk (blk_drew BK344.out)
 replace HI0 := Aside0.mk (IsS64.drew HI0.out)
 replace HK := Aside0.mk (keep_drew HK.out)
 replace HB := Aside0.mk (below_drew1 HB.out)
 refine start_ (n := 16) (S := fun w' => w'.cell? ⟨gb344, 0, none⟩ = some (.int .i64 t339) ∧ w'.cell? ⟨gb344, 1, none⟩ = some (.int .i64 t340) ∧ w'.cell? ⟨gb344, 2, none⟩ = some (.int .i64 t341) ∧ w'.cell? ⟨gb344, 3, none⟩ = some (.string t342)) (ds := []) (Sw.b 16 0) (by kernel_rfl) rfl rfl ⟨(blk_cell BK344.out 0).trans rfl, (blk_cell BK344.out 1).trans rfl, (blk_cell BK344.out 2).trans rfl, (blk_cell BK344.out 3).trans rfl⟩ (fun hHeld => ?_); refine with_tabW spec_l1Cur_decoder.tab2 spec_l1Cur_decoder.bits2 (fun HT_ HW_ => ?_)
 generalize w14.drew = w15 at BK335 BK344 HI0 HK HB hHeld ⊢
 refine Sw.pw 1 17 (Sw.b 16 2) ?_
 refine Sw.pw 2 18 (Sw.b 16 6) ?_
 refine take_ (i := 0) (N := some 16) (v := ?_) (a' := ?_) (Sw.b 16 7) rfl rfl (take_ofW HT_.out HW_.out (by kernel_rfl)) (fun _ _ _ h => h) (Or.inl ⟨by rfl, ?_⟩) hHeld ?_ ?_
 rotate_left
 ·rintro w' ⟨s0, s1, s2, s3⟩
  go_simp
  with_reducible rfl
 rotate_left
 ·simp only [Act.put, List.setIfInBounds_toArray, List.set_cons_zero, List.set_cons_succ, i64_w, i32_w]
  rfl
 refine take_ (i := 3) (N := some 19) (v := ?_) (a' := ?_) (Sw.b 16 15) rfl rfl (take_ofW HT_.out HW_.out (by kernel_rfl)) (fun _ _ _ h => h) (Or.inl ⟨by rfl, ?_⟩) hHeld ?_ ?_
 rotate_left
 ·rintro w' ⟨s0, s1, s2, s3⟩
  go_simp
  with_reducible rfl
 rotate_left
 ·simp only [Act.put, List.setIfInBounds_toArray, List.set_cons_zero, List.set_cons_succ, i64_w, i32_w]
  rfl
 refine join_ (σ := Value × Value × Nat) 4 (Sw.b 16 4095) (fun s_ => [(20, .string t345), (21, .tuple #[.agg #[.int .i64 t348, .int .i64 t349, .int .i64 t350, .string t351], s_.1, s_.2.1, .bool t358]), (5, .pointer (some ⟨s_.2.2, 0, none⟩)), (15, .tuple #[.agg #[.int .i64 t348, .int .i64 t349, .int .i64 t350, .string t351], s_.1, s_.2.1, .bool t358]), (22, .agg #[.int .i64 t348, .int .i64 t349, .int .i64 t350, .string t351]), (23, s_.1), (24, s_.2.1), (25, .bool t358)]) (fun s_ w' => (w'.cell? ⟨gb344, 0, none⟩ = some (.int .i64 t339) ∧ w'.cell? ⟨gb344, 1, none⟩ = some (.int .i64 t340) ∧ w'.cell? ⟨gb344, 2, none⟩ = some (.int .i64 t341) ∧ w'.cell? ⟨gb344, 3, none⟩ = some (.string t342)) ∧ (Kd.R (Kd.int .i64) 3 w' w.heap.size (fun k_ => some k_ ≠ (s_.2.1 : Value).ownBlock) s_.1 t352) ∧ (Kd.R (Kd.int .i64) 3 w' w.heap.size (fun k_ => some k_ ≠ (s_.1 : Value).ownBlock) s_.2.1 t355) ∧ (w'.heap[gb335]? = some (.cells #[.int .i64 0, .int .i64 0, .int .i64 0, .string (⟨#[]⟩ : ByteArray)] 25 (0, 0))) ∧ (w'.heap[gb344]? = some (.cells #[.int .i64 t339, .int .i64 t340, .int .i64 t341, .string t342] 25 (0, 0))) ∧ (w'.heap[s_.2.2]? = some (.cells #[.int .i64 0, .int .i64 0, .int .i64 0, .string (⟨#[]⟩ : ByteArray)] 25 (0, 0))) ∧ (w.heap.size ≤ s_.2.2) ∧ (w0.heap.size ≤ s_.2.2) ∧ (g ≠ s_.2.2) ∧ (s_.2.2 ≠ g) ∧ (gb335 ≠ s_.2.2) ∧ (s_.2.2 ≠ gb335) ∧ (gb344 ≠ s_.2.2) ∧ (s_.2.2 ≠ gb344) ∧ (IsS64 w0 w' g s0_0 t346 t347) ∧ (KeepBut w w' g none) ∧ (Below w0.heap.size w0 w')) ?_ ?_
 rotate_left
 ·intro hCont
  refine two_ (i := 4) (j := 11) (Ni := some 20) (Nj := some 5) (Sw.b 16 31) (Sw.b 16 2063) rfl rfl rfl rfl (two_of HT_.out (by kernel_rfl)) (by decide) (by decide) (fun K hK => ?_) (fun K hK => ?_)
  ·skip
   refine goes_ Tryd.func50 (by kernel_rfl) rfl #[.pointer (some ⟨g, 0, none⟩), .int .i64 t339] (by rfl) rfl rfl Zb49_5 ?_
   with_reducible refine (spec_l1Cur_coded.calls k g s0_0 t337 t338 t339 t345 t346 t347 w0 _ ?side1 ?side2 A4.out).mono ?_
   (case side1 => repeat (first | (with_reducible first | exact HI0.out | apply IsS64.alloc | apply IsS64.drewN | apply IsS64.drew | apply IsS64.set_1 | apply IsS64.set_2 | refine IsS64.far ?_ NB0_335.out _ | refine IsS64.far ?_ NB0_344.out _) | exact HI0.out))
   (case side2 => repeat (first | (with_reducible first | exact HB.out | apply below_alloc | apply pw_below_drewN | apply below_drew1 | refine below_set ?_ (IsS64.ge HI0.out) | refine below_set ?_ GE335.out | refine below_set ?_ GE344.out) | exact HB.out))
   rintro e w16 ⟨rfl, hi, hb, hk⟩
   refine ⟨_, rfl, ?_⟩
   replace BK335 := Aside0.mk (KeepBut.blk hk (g' := gb335) (o := .cells #[.int .i64 0, .int .i64 0, .int .i64 0, .string (⟨#[]⟩ : ByteArray)] 25 (0, 0)) (Sw.bk BK335.out) NB335_0.out (by simp))
   replace BK344 := Aside0.mk (KeepBut.blk hk (g' := gb344) (o := .cells #[.int .i64 t339, .int .i64 t340, .int .i64 t341, .string t342] 25 (0, 0)) (Sw.bk BK344.out) NB344_0.out (by simp))
   replace HK := Aside0.mk (KeepBut.trans Zb49_3 hk (.inl rfl))
   replace HB := Aside0.mk (hb)
   replace HI0 := Aside0.mk (hi)
   (try clear hb)
   (try clear hb2)
   (try clear hk)
   (try clear hi)
   refine hK.out _ _ ⟨(blk_cell BK344.out 0).trans rfl, (blk_cell BK344.out 1).trans rfl, (blk_cell BK344.out 2).trans rfl, (blk_cell BK344.out 3).trans rfl⟩ (fun hHeld => ?_)
   clear hK K
   refine norm_ (a' := ?_) ?_ ?_
   rotate_left
   ·show Act.put _ (some 20) _ = _
    simp only [Act.put, List.setIfInBounds_toArray, List.set_cons_zero, List.set_cons_succ, i64_w, i32_w]
    rfl
   refine two_ (i := 5) (j := 11) (Ni := some 21) (Nj := some 5) (Sw.b 16 63) (Sw.b 16 2079) rfl rfl rfl rfl (two_of HT_.out (by kernel_rfl)) (by decide) (by decide) (fun K hK => ?_) (fun K hK => ?_)
   ·skip
    refine goes_ Tryd.func9 (by kernel_rfl) rfl #[.agg #[.int .i64 t339, .int .i64 t340, .int .i64 t341, .string t342], .string t345] (by rfl) rfl rfl Zb49_5 ?_
    with_reducible refine (spec_FeedDecoder.calls k t339 t340 t341 t342 t345 t348 t349 t350 t351 t352 t355 t358 _ A5.out).mono ?_
    rintro e w17 ⟨v353, v356, rfl, ho0, ho1, hb⟩
    refine ⟨_, rfl, ?_⟩
    have HO354 := Aside0.mk (Kd.R_lower ho0 (keep_size (w := w) (g := g) (row := none) Zb49_3))
    have HO357 := Aside0.mk (Kd.R_lower ho1 (keep_size (w := w) (g := g) (row := none) Zb49_3))
    replace BK335 := Aside0.mk (Sw.bl BK335.out hb)
    replace BK344 := Aside0.mk (Sw.bl BK344.out hb)
    replace HK := Aside0.mk (KeepBut.trans Zb49_3 (KeepBut.of_below hb g none) (.inl rfl))
    replace HB := Aside0.mk (below_step Zb49_6 hb)
    replace HI0 := Aside0.mk (IsS64.below Zb49_4 hb)
    (try clear hb)
    (try clear hb2)
    (try clear hk)
    (try clear hi)
    (try clear ho0)
    (try clear ho1)
    refine hK.out _ _ ⟨(blk_cell BK344.out 0).trans rfl, (blk_cell BK344.out 1).trans rfl, (blk_cell BK344.out 2).trans rfl, (blk_cell BK344.out 3).trans rfl⟩ (fun hHeld => ?_)
    clear hK K
    refine norm_ (a' := ?_) ?_ ?_
    rotate_left
    ·show Act.put _ (some 21) _ = _
     simp only [Act.put, List.setIfInBounds_toArray, List.set_cons_zero, List.set_cons_succ, i64_w, i32_w]
     rfl
    refine Sw.pw 6 15 (Sw.b 16 127) ?_
    refine Sw.pw 7 22 (Sw.b 16 255) ?_
    refine Sw.pw 8 23 (Sw.b 16 511) ?_
    refine Sw.pw 9 24 (Sw.b 16 1023) ?_
    refine Sw.pw 10 25 (Sw.b 16 2047) ?_
    refine one_ (i := 11) (N := some 5) (Sw.b 16 4095) rfl rfl (one_of HT_.out (by kernel_rfl)) (by decide) (fun K hK => ?_)
    refine box_step ?hg (N := 5) ?hd (cs := #[.int .i64 0, .int .i64 0, .int .i64 0, .string (⟨#[]⟩ : ByteArray)]) (t := 25) ?hr ?_; (case hd => rfl); (case hg => rfl); (case hr => first | (go_simp; done) | (go_simp; rfl))
    intro gb359 hg w18 hbox hb
    replace HO354 := Aside0.mk (Kd.R_below (Sw.rt HO354.out) hb)
    replace HO357 := Aside0.mk (Kd.R_below (Sw.rt HO357.out) hb)
    replace HB := Aside0.mk (below_step Zb49_6 hb)
    have BK359 := Aside0.mk (hbox)
    have GW359 := Aside0.mk ((by rw [hg]; exact (keep_size (w := w) (g := g) (row := none) Zb49_3) : w.heap.size ≤ gb359))
    have GE359 := Aside0.mk ((Nat.le_trans HW0.out (by rw [hg]; exact (keep_size (w := w) (g := g) (row := none) Zb49_3) : w.heap.size ≤ gb359) : w0.heap.size ≤ gb359))
    replace HK := Aside0.mk (KeepBut.trans Zb49_3 (KeepBut.of_below hb g none) (.inl rfl))
    have NB335_359 := Aside0.mk (Sw.nl hg BK335.out)
    have NB359_335 := Aside0.mk (Sw.ng hg BK335.out)
    replace BK335 := Aside0.mk (Sw.bl BK335.out hb)
    have NB344_359 := Aside0.mk (Sw.nl hg BK344.out)
    have NB359_344 := Aside0.mk (Sw.ng hg BK344.out)
    replace BK344 := Aside0.mk (Sw.bl BK344.out hb)
    have NB0_359 := Aside0.mk ((by rw [hg]; exact Nat.ne_of_lt (IsS64.lt (show IsS64 w0 _ g s0_0 t346 t347 from Zb49_4)) : g ≠ gb359))
    have NB359_0 := Aside0.mk ((by rw [hg]; exact Nat.ne_of_gt (IsS64.lt (show IsS64 w0 _ g s0_0 t346 t347 from Zb49_4)) : gb359 ≠ g))
    replace HI0 := Aside0.mk (IsS64.below Zb49_4 hb)
    clear hb hbox hg
    refine hK.out _ _ ⟨(blk_cell BK344.out 0).trans rfl, (blk_cell BK344.out 1).trans rfl, (blk_cell BK344.out 2).trans rfl, (blk_cell BK344.out 3).trans rfl⟩ (fun hHeld => ?_)
    clear hK K
    refine norm_ (a' := ?_) ?_ ?_
    rotate_left
    ·show Act.put _ (some 5) _ = _
     simp only [Act.put, List.setIfInBounds_toArray, List.set_cons_zero, List.set_cons_succ, i64_w, i32_w]
     rfl
    exact norm_ Zb49_12 (hCont (v353, v356, gb359) _ ⟨hHeld, (Sw.rt HO354.out), (Sw.rt HO357.out), (Sw.bk BK335.out), (Sw.bk BK344.out), (Sw.bk BK359.out), GW359.out, GE359.out, NB0_359.out, NB359_0.out, NB335_359.out, NB359_335.out, NB344_359.out, NB359_344.out, Zb49_1, Zb49_0, Zb49_2⟩)
   ·skip
    refine box_step ?hg (N := 5) ?hd (cs := #[.int .i64 0, .int .i64 0, .int .i64 0, .string (⟨#[]⟩ : ByteArray)]) (t := 25) ?hr ?_; (case hd => rfl); (case hg => rfl); (case hr => first | (go_simp; done) | (go_simp; rfl))
    intro gb359 hg w17 hbox hb
    replace HB := Aside0.mk (below_step Zb49_6 hb)
    have BK359 := Aside0.mk (hbox)
    have GW359 := Aside0.mk ((by rw [hg]; exact (keep_size (w := w) (g := g) (row := none) Zb49_3) : w.heap.size ≤ gb359))
    have GE359 := Aside0.mk ((Nat.le_trans HW0.out (by rw [hg]; exact (keep_size (w := w) (g := g) (row := none) Zb49_3) : w.heap.size ≤ gb359) : w0.heap.size ≤ gb359))
    replace HK := Aside0.mk (KeepBut.trans Zb49_3 (KeepBut.of_below hb g none) (.inl rfl))
    have NB335_359 := Aside0.mk (Sw.nl hg BK335.out)
    have NB359_335 := Aside0.mk (Sw.ng hg BK335.out)
    replace BK335 := Aside0.mk (Sw.bl BK335.out hb)
    have NB344_359 := Aside0.mk (Sw.nl hg BK344.out)
    have NB359_344 := Aside0.mk (Sw.ng hg BK344.out)
    replace BK344 := Aside0.mk (Sw.bl BK344.out hb)
    have NB0_359 := Aside0.mk ((by rw [hg]; exact Nat.ne_of_lt (IsS64.lt (show IsS64 w0 _ g s0_0 t346 t347 from Zb49_4)) : g ≠ gb359))
    have NB359_0 := Aside0.mk ((by rw [hg]; exact Nat.ne_of_gt (IsS64.lt (show IsS64 w0 _ g s0_0 t346 t347 from Zb49_4)) : gb359 ≠ g))
    replace HI0 := Aside0.mk (IsS64.below Zb49_4 hb)
    clear hb hbox hg
    refine hK.out _ _ ⟨(blk_cell BK344.out 0).trans rfl, (blk_cell BK344.out 1).trans rfl, (blk_cell BK344.out 2).trans rfl, (blk_cell BK344.out 3).trans rfl⟩ (fun hHeld => ?_)
    clear hK K
    refine norm_ (a' := ?_) ?_ ?_
    rotate_left
    ·show Act.put _ (some 5) _ = _
     simp only [Act.put, List.setIfInBounds_toArray, List.set_cons_zero, List.set_cons_succ, i64_w, i32_w]
     rfl
    refine one_ (i := 5) (N := some 21) (Sw.b 16 2111) rfl rfl (one_of HT_.out (by kernel_rfl)) (by decide) (fun K hK => ?_)
    refine goes_ Tryd.func9 (by kernel_rfl) rfl #[.agg #[.int .i64 t339, .int .i64 t340, .int .i64 t341, .string t342], .string t345] (by rfl) rfl rfl Zb49_5 ?_
    with_reducible refine (spec_FeedDecoder.calls k t339 t340 t341 t342 t345 t348 t349 t350 t351 t352 t355 t358 _ A5.out).mono ?_
    rintro e w18 ⟨v353, v356, rfl, ho0, ho1, hb⟩
    refine ⟨_, rfl, ?_⟩
    have HO354 := Aside0.mk (Kd.R_lower ho0 (keep_size (w := w) (g := g) (row := none) Zb49_0))
    have HO357 := Aside0.mk (Kd.R_lower ho1 (keep_size (w := w) (g := g) (row := none) Zb49_0))
    replace BK335 := Aside0.mk (Sw.bl BK335.out hb)
    replace BK344 := Aside0.mk (Sw.bl BK344.out hb)
    replace BK359 := Aside0.mk (Sw.bl BK359.out hb)
    replace HK := Aside0.mk (KeepBut.trans Zb49_0 (KeepBut.of_below hb g none) (.inl rfl))
    replace HB := Aside0.mk (below_step Zb49_2 hb)
    replace HI0 := Aside0.mk (IsS64.below Zb49_1 hb)
    (try clear hb)
    (try clear hb2)
    (try clear hk)
    (try clear hi)
    (try clear ho0)
    (try clear ho1)
    refine hK.out _ _ ⟨(blk_cell BK344.out 0).trans rfl, (blk_cell BK344.out 1).trans rfl, (blk_cell BK344.out 2).trans rfl, (blk_cell BK344.out 3).trans rfl⟩ (fun hHeld => ?_)
    clear hK K
    refine norm_ (a' := ?_) ?_ ?_
    rotate_left
    ·show Act.put _ (some 21) _ = _
     simp only [Act.put, List.setIfInBounds_toArray, List.set_cons_zero, List.set_cons_succ, i64_w, i32_w]
     rfl
    refine Sw.pw 6 15 (Sw.b 16 2175) ?_
    refine Sw.pw 7 22 (Sw.b 16 2303) ?_
    refine Sw.pw 8 23 (Sw.b 16 2559) ?_
    refine Sw.pw 9 24 (Sw.b 16 3071) ?_
    refine Sw.pw 10 25 (Sw.b 16 4095) ?_
    exact norm_ Zb49_12 (hCont (v353, v356, gb359) _ ⟨hHeld, (Sw.rt HO354.out), (Sw.rt HO357.out), (Sw.bk BK335.out), (Sw.bk BK344.out), (Sw.bk BK359.out), GW359.out, GE359.out, NB0_359.out, NB359_0.out, NB335_359.out, NB359_335.out, NB344_359.out, NB359_344.out, Zb49_1, Zb49_0, Zb49_2⟩)
  ·skip
   refine box_step ?hg (N := 5) ?hd (cs := #[.int .i64 0, .int .i64 0, .int .i64 0, .string (⟨#[]⟩ : ByteArray)]) (t := 25) ?hr ?_; (case hd => rfl); (case hg => rfl); (case hr => first | (go_simp; done) | (go_simp; rfl))
   intro gb359 hg w16 hbox hb
   replace HB := Aside0.mk (below_step Zb49_6 hb)
   have BK359 := Aside0.mk (hbox)
   have GW359 := Aside0.mk ((by rw [hg]; exact (keep_size (w := w) (g := g) (row := none) Zb49_3) : w.heap.size ≤ gb359))
   have GE359 := Aside0.mk ((Nat.le_trans HW0.out (by rw [hg]; exact (keep_size (w := w) (g := g) (row := none) Zb49_3) : w.heap.size ≤ gb359) : w0.heap.size ≤ gb359))
   replace HK := Aside0.mk (KeepBut.trans Zb49_3 (KeepBut.of_below hb g none) (.inl rfl))
   have NB335_359 := Aside0.mk (Sw.nl hg BK335.out)
   have NB359_335 := Aside0.mk (Sw.ng hg BK335.out)
   replace BK335 := Aside0.mk (Sw.bl BK335.out hb)
   have NB344_359 := Aside0.mk (Sw.nl hg BK344.out)
   have NB359_344 := Aside0.mk (Sw.ng hg BK344.out)
   replace BK344 := Aside0.mk (Sw.bl BK344.out hb)
   have NB0_359 := Aside0.mk ((by rw [hg]; exact Nat.ne_of_lt (IsS64.lt (show IsS64 w0 _ g s0_0 t337 t338 from Zb49_4)) : g ≠ gb359))
   have NB359_0 := Aside0.mk ((by rw [hg]; exact Nat.ne_of_gt (IsS64.lt (show IsS64 w0 _ g s0_0 t337 t338 from Zb49_4)) : gb359 ≠ g))
   replace HI0 := Aside0.mk (IsS64.below Zb49_4 hb)
   clear hb hbox hg
   refine hK.out _ _ ⟨(blk_cell BK344.out 0).trans rfl, (blk_cell BK344.out 1).trans rfl, (blk_cell BK344.out 2).trans rfl, (blk_cell BK344.out 3).trans rfl⟩ (fun hHeld => ?_)
   clear hK K
   refine norm_ (a' := ?_) ?_ ?_
   rotate_left
   ·show Act.put _ (some 5) _ = _
    simp only [Act.put, List.setIfInBounds_toArray, List.set_cons_zero, List.set_cons_succ, i64_w, i32_w]
    rfl
   refine one_ (i := 4) (N := some 20) (Sw.b 16 2079) rfl rfl (one_of HT_.out (by kernel_rfl)) (by decide) (fun K hK => ?_)
   refine goes_ Tryd.func50 (by kernel_rfl) rfl #[.pointer (some ⟨g, 0, none⟩), .int .i64 t339] (by rfl) rfl rfl Zb49_5 ?_
   with_reducible refine (spec_l1Cur_coded.calls k g s0_0 t337 t338 t339 t345 t346 t347 w0 _ ?side1 ?side2 A4.out).mono ?_
   (case side1 => repeat (first | (with_reducible first | exact HI0.out | apply IsS64.alloc | apply IsS64.drewN | apply IsS64.drew | apply IsS64.set_1 | apply IsS64.set_2 | refine IsS64.far ?_ NB0_335.out _ | refine IsS64.far ?_ NB0_344.out _ | refine IsS64.far ?_ NB0_359.out _) | exact HI0.out))
   (case side2 => repeat (first | (with_reducible first | exact HB.out | apply below_alloc | apply pw_below_drewN | apply below_drew1 | refine below_set ?_ (IsS64.ge HI0.out) | refine below_set ?_ GE335.out | refine below_set ?_ GE344.out | refine below_set ?_ GE359.out) | exact HB.out))
   rintro e w17 ⟨rfl, hi, hb, hk⟩
   refine ⟨_, rfl, ?_⟩
   replace BK335 := Aside0.mk (KeepBut.blk hk (g' := gb335) (o := .cells #[.int .i64 0, .int .i64 0, .int .i64 0, .string (⟨#[]⟩ : ByteArray)] 25 (0, 0)) (Sw.bk BK335.out) NB335_0.out (by simp))
   replace BK344 := Aside0.mk (KeepBut.blk hk (g' := gb344) (o := .cells #[.int .i64 t339, .int .i64 t340, .int .i64 t341, .string t342] 25 (0, 0)) (Sw.bk BK344.out) NB344_0.out (by simp))
   replace BK359 := Aside0.mk (KeepBut.blk hk (g' := gb359) (o := .cells #[.int .i64 0, .int .i64 0, .int .i64 0, .string (⟨#[]⟩ : ByteArray)] 25 (0, 0)) (Sw.bk BK359.out) NB359_0.out (by simp))
   replace HK := Aside0.mk (KeepBut.trans Zb49_0 hk (.inl rfl))
   replace HB := Aside0.mk (hb)
   replace HI0 := Aside0.mk (hi)
   (try clear hb)
   (try clear hb2)
   (try clear hk)
   (try clear hi)
   refine hK.out _ _ ⟨(blk_cell BK344.out 0).trans rfl, (blk_cell BK344.out 1).trans rfl, (blk_cell BK344.out 2).trans rfl, (blk_cell BK344.out 3).trans rfl⟩ (fun hHeld => ?_)
   clear hK K
   refine norm_ (a' := ?_) ?_ ?_
   rotate_left
   ·show Act.put _ (some 20) _ = _
    simp only [Act.put, List.setIfInBounds_toArray, List.set_cons_zero, List.set_cons_succ, i64_w, i32_w]
    rfl
   refine one_ (i := 5) (N := some 21) (Sw.b 16 2111) rfl rfl (one_of HT_.out (by kernel_rfl)) (by decide) (fun K hK => ?_)
   refine goes_ Tryd.func9 (by kernel_rfl) rfl #[.agg #[.int .i64 t339, .int .i64 t340, .int .i64 t341, .string t342], .string t345] (by rfl) rfl rfl Zb49_5 ?_
   with_reducible refine (spec_FeedDecoder.calls k t339 t340 t341 t342 t345 t348 t349 t350 t351 t352 t355 t358 _ A5.out).mono ?_
   rintro e w18 ⟨v353, v356, rfl, ho0, ho1, hb⟩
   refine ⟨_, rfl, ?_⟩
   have HO354 := Aside0.mk (Kd.R_lower ho0 (keep_size (w := w) (g := g) (row := none) Zb49_0))
   have HO357 := Aside0.mk (Kd.R_lower ho1 (keep_size (w := w) (g := g) (row := none) Zb49_0))
   replace BK335 := Aside0.mk (Sw.bl BK335.out hb)
   replace BK344 := Aside0.mk (Sw.bl BK344.out hb)
   replace BK359 := Aside0.mk (Sw.bl BK359.out hb)
   replace HK := Aside0.mk (KeepBut.trans Zb49_0 (KeepBut.of_below hb g none) (.inl rfl))
   replace HB := Aside0.mk (below_step Zb49_2 hb)
   replace HI0 := Aside0.mk (IsS64.below Zb49_1 hb)
   (try clear hb)
   (try clear hb2)
   (try clear hk)
   (try clear hi)
   (try clear ho0)
   (try clear ho1)
   refine hK.out _ _ ⟨(blk_cell BK344.out 0).trans rfl, (blk_cell BK344.out 1).trans rfl, (blk_cell BK344.out 2).trans rfl, (blk_cell BK344.out 3).trans rfl⟩ (fun hHeld => ?_)
   clear hK K
   refine norm_ (a' := ?_) ?_ ?_
   rotate_left
   ·show Act.put _ (some 21) _ = _
    simp only [Act.put, List.setIfInBounds_toArray, List.set_cons_zero, List.set_cons_succ, i64_w, i32_w]
    rfl
   refine Sw.pw 6 15 (Sw.b 16 2175) ?_
   refine Sw.pw 7 22 (Sw.b 16 2303) ?_
   refine Sw.pw 8 23 (Sw.b 16 2559) ?_
   refine Sw.pw 9 24 (Sw.b 16 3071) ?_
   refine Sw.pw 10 25 (Sw.b 16 4095) ?_
   exact norm_ Zb49_12 (hCont (v353, v356, gb359) _ ⟨hHeld, (Sw.rt HO354.out), (Sw.rt HO357.out), (Sw.bk BK335.out), (Sw.bk BK344.out), (Sw.bk BK359.out), GW359.out, GE359.out, NB0_359.out, NB359_0.out, NB335_359.out, NB359_335.out, NB344_359.out, NB359_344.out, Zb49_1, Zb49_0, Zb49_2⟩)
 rintro ⟨v353, v356, gb359⟩ w19 ⟨hS_, h0_, h1_, h2_, h3_, h4_, h5_, h6_, h7_, h8_, h9_, h10_, h11_, h12_, h13_, h14_, h15_⟩
 have n0_ : Aside0 (Kd.R (Kd.int .i64) 3 w19 w.heap.size (fun k_ => some k_ ≠ (v356 : Value).ownBlock) v353 t352) := ⟨h0_⟩
 have n1_ : Aside0 (Kd.R (Kd.int .i64) 3 w19 w.heap.size (fun k_ => some k_ ≠ (v353 : Value).ownBlock) v356 t355) := ⟨h1_⟩
 have n2_ : Aside0 (w19.heap[gb335]? = some (.cells #[.int .i64 0, .int .i64 0, .int .i64 0, .string (⟨#[]⟩ : ByteArray)] 25 (0, 0))) := ⟨h2_⟩
 have n3_ : Aside0 (w19.heap[gb344]? = some (.cells #[.int .i64 t339, .int .i64 t340, .int .i64 t341, .string t342] 25 (0, 0))) := ⟨h3_⟩
 have n4_ : Aside0 (w19.heap[gb359]? = some (.cells #[.int .i64 0, .int .i64 0, .int .i64 0, .string (⟨#[]⟩ : ByteArray)] 25 (0, 0))) := ⟨h4_⟩
 have n5_ : Aside0 (w.heap.size ≤ gb359) := ⟨h5_⟩
 have n6_ : Aside0 (w0.heap.size ≤ gb359) := ⟨h6_⟩
 have n7_ : Aside0 (g ≠ gb359) := ⟨h7_⟩
 have n8_ : Aside0 (gb359 ≠ g) := ⟨h8_⟩
 have n9_ : Aside0 (gb335 ≠ gb359) := ⟨h9_⟩
 have n10_ : Aside0 (gb359 ≠ gb335) := ⟨h10_⟩
 have n11_ : Aside0 (gb344 ≠ gb359) := ⟨h11_⟩
 have n12_ : Aside0 (gb359 ≠ gb344) := ⟨h12_⟩
 have n13_ : Aside0 (IsS64 w0 w19 g s0_0 t346 t347) := ⟨h13_⟩
 have n14_ : Aside0 (KeepBut w w19 g none) := ⟨h14_⟩
 have n15_ : Aside0 (Below w0.heap.size w0 w19) := ⟨h15_⟩
 clear BK335
 clear BK344
 clear HI0
 clear HK
 clear HB
 clear h0_ h1_ h2_ h3_ h4_ h5_ h6_ h7_ h8_ h9_ h10_ h11_ h12_ h13_ h14_ h15_
 have HO354 := n0_
 have HO357 := n1_
 have BK335 := n2_
 have BK344 := n3_
 have BK359 := n4_
 have GW359 := n5_
 have GE359 := n6_
 have NB0_359 := n7_
 have NB359_0 := n8_
 have NB335_359 := n9_
 have NB359_335 := n10_
 have NB344_359 := n11_
 have NB359_344 := n12_
 have HI0 := n13_
 have HK := n14_
 have HB := n15_
 clear n0_ n1_ n2_ n3_ n4_ n5_ n6_ n7_ n8_ n9_ n10_ n11_ n12_ n13_ n14_ n15_
 have hHeld : w19.cell? ⟨gb344, 0, none⟩ = some (.int .i64 t339) ∧ w19.cell? ⟨gb344, 1, none⟩ = some (.int .i64 t340) ∧ w19.cell? ⟨gb344, 2, none⟩ = some (.int .i64 t341) ∧ w19.cell? ⟨gb344, 3, none⟩ = some (.string t342) := hS_
 refine norm_ (a' := ?_) ?_ ?_
 rotate_left
 ·simp only [putAll, Act.put, List.setIfInBounds_toArray, List.set_cons_zero, List.set_cons_succ]
  rfl
 refine one_ (i := 12) (N := none) (Sw.b 16 8191) rfl rfl (one_of HT_.out (by kernel_rfl)) (by decide) (fun K hK => ?_)
 have hs20 : w19.cell? ⟨gb359, 0, none⟩ = some (.int .i64 0) := (blk_cell BK359.out 0).trans rfl
 have hfs20 := blk_frozen BK359.out 0
 have hns20_0 := NB335_359.out
 have hns20_1 := NB344_359.out
 have hms20_0 := NB359_335.out
 have hms20_1 := NB359_344.out
 have hs21 : w19.cell? ⟨gb359, 1, none⟩ = some (.int .i64 0) := (blk_cell BK359.out 1).trans rfl
 have hfs21 := blk_frozen BK359.out 1
 have hns21_0 := NB335_359.out
 have hns21_1 := NB344_359.out
 have hms21_0 := NB359_335.out
 have hms21_1 := NB359_344.out
 have hs22 : w19.cell? ⟨gb359, 2, none⟩ = some (.int .i64 0) := (blk_cell BK359.out 2).trans rfl
 have hfs22 := blk_frozen BK359.out 2
 have hns22_0 := NB335_359.out
 have hns22_1 := NB344_359.out
 have hms22_0 := NB359_335.out
 have hms22_1 := NB359_344.out
 have hs23 : w19.cell? ⟨gb359, 3, none⟩ = some (.string (⟨#[]⟩ : ByteArray)) := (blk_cell BK359.out 3).trans rfl
 have hfs23 := blk_frozen BK359.out 3
 have hns23_0 := NB335_359.out
 have hns23_1 := NB344_359.out
 have hms23_0 := NB359_335.out
 have hms23_1 := NB359_344.out
 refine skip_ (w1 := ?_) (by rfl) rfl ?_ ?_
 rotate_left
 ·(try (have hcs0_ := cellS64_0 HI0.out.1; have hfs0_ := blk_frozen HI0.out.1 0; have hcs1_ := cellS64_1 HI0.out.1; have hfs1_ := blk_frozen HI0.out.1 1; have hcs2_ := cellS64_2 HI0.out.1; have hfs2_ := blk_frozen HI0.out.1 2)); go_simp
  rfl
 refine hK.out _ _ ⟨((cell_far (p := ⟨gb359, _, none⟩) NB344_359.out _).trans (((cell_far (p := ⟨gb359, _, none⟩) NB344_359.out _).trans (((cell_far (p := ⟨gb359, _, none⟩) NB344_359.out _).trans (((cell_far (p := ⟨gb359, _, none⟩) NB344_359.out _).trans (hHeld.1)))))))), ((cell_far (p := ⟨gb359, _, none⟩) NB344_359.out _).trans (((cell_far (p := ⟨gb359, _, none⟩) NB344_359.out _).trans (((cell_far (p := ⟨gb359, _, none⟩) NB344_359.out _).trans (((cell_far (p := ⟨gb359, _, none⟩) NB344_359.out _).trans (hHeld.2.1)))))))), ((cell_far (p := ⟨gb359, _, none⟩) NB344_359.out _).trans (((cell_far (p := ⟨gb359, _, none⟩) NB344_359.out _).trans (((cell_far (p := ⟨gb359, _, none⟩) NB344_359.out _).trans (((cell_far (p := ⟨gb359, _, none⟩) NB344_359.out _).trans (hHeld.2.2.1)))))))), ((cell_far (p := ⟨gb359, _, none⟩) NB344_359.out _).trans (((cell_far (p := ⟨gb359, _, none⟩) NB344_359.out _).trans (((cell_far (p := ⟨gb359, _, none⟩) NB344_359.out _).trans (((cell_far (p := ⟨gb359, _, none⟩) NB344_359.out _).trans (hHeld.2.2.2))))))))⟩ (fun hHeld => ?_)
 clear hK K
 refine Sw.pw 13 6 (Sw.b 16 16383) ?_
 refine Sw.pw 14 7 (Sw.b 16 32767) ?_
 refine Sw.pw 15 8 (Sw.b 16 65535) ?_
 refine done_ (done_of HT_.out (by kernel_rfl)) ?_
 go_upto_region 3 with (fail)
 go_cut [29] (fun v29 wc => ∃ (kq : Nat) (x29_5 : Bool), v29 = .bool x29_5 ∧ Aside0 (spec_l1Cur_decoder.j0 kq x29_5 s0_0 t346 t347 t339 t340 t341 t342 t348 t349 t350 t351 = some (r1, r2, r3, r4, r5, r6)) ∧ Aside0 (kq ≤ k) ∧ Aside0 (wc.heap[gb335]? = some (.cells #[.int .i64 0, .int .i64 0, .int .i64 0, .string (⟨#[]⟩ : ByteArray)] 25 (0, 0))) ∧ Aside0 (wc.heap[gb344]? = some (.cells #[.int .i64 t339, .int .i64 t340, .int .i64 t341, .string t342] 25 (0, 0))) ∧ Aside0 (wc.heap[gb359]? = some (.cells #[.int .i64 t348, .int .i64 t349, .int .i64 t350, .string t351] 25 (0, 0))) ∧ Aside0 (IsS64 w0 wc g s0_0 t346 t347) ∧ Aside0 (KeepBut w wc g none) ∧ Aside0 (Below w0.heap.size w0 wc))
 case first =>
  have H := HC6.out
  clear HC6
  by_cases c24 : t343 = true
  ·subst c24
   have H1 : (spec_l1Cur_decoder.j0 k t358 s0_0 t346 t347 t339 t340 t341 t342 t348 t349 t350 t351) = some (r1, r2, r3, r4, r5, r6) := by rw [if_pos rfl] at H; exact H
   clear H
   have H := H1
   clear H1
   have H' := Aside0.mk H
   clear H
   go_wp2
   go_meet
   case rel => exact ⟨_, (t358), Sw.r, H', ⟨by first | omega | exact Nat.le_refl _⟩, ⟨Sw.bf BK335.out NB335_359.out⟩, ⟨Sw.bf BK344.out NB344_359.out⟩, ⟨Sw.bp (Sw.p0_1_2_3 BK359.out)⟩, ⟨Zb49_1⟩, ⟨Zb49_0⟩, ⟨Zb49_2⟩⟩
  ·replace c24 := Bool.eq_false_iff.mpr c24
   subst c24
   have H1 : (spec_l1Cur_decoder.j0 k false s0_0 t346 t347 t339 t340 t341 t342 t348 t349 t350 t351) = some (r1, r2, r3, r4, r5, r6) := by rw [if_neg (show ¬ (false = true) by decide)] at H; exact H
   clear H
   have H := H1
   clear H1
   have H' := Aside0.mk H
   clear H
   go_wp2
   go_meet
   case rel => exact ⟨_, (false), Sw.r, H', ⟨by first | omega | exact Nat.le_refl _⟩, ⟨Sw.bf BK335.out NB335_359.out⟩, ⟨Sw.bf BK344.out NB344_359.out⟩, ⟨Sw.bp (Sw.p0_1_2_3 BK359.out)⟩, ⟨Zb49_1⟩, ⟨Zb49_0⟩, ⟨Zb49_2⟩⟩
 case rest =>
  clear HC6
  try clear c2
  try clear p2
  try clear c5
  try clear c9
  try clear c24
  obtain ⟨kq, x29_5, rfl, HA, HJ5, BK335, BK344, BK359, HI0, HK, HB⟩ := hcut
  cases kq with
  | zero => exact absurd HA.out (by simp [spec_l1Cur_decoder.j0])
  | succ kj5 =>
   have H := HA.out
   clear HA
   simp only [spec_l1Cur_decoder.j0] at H
   have HC25 := Aside0.mk H
   clear H
   go_upto_if 29 with (fail)
   go_cut [] (fun wc => ∃ (kq : Nat) (x345000_24 : Int) (x345001_24 : Int) (x345002_24 : Int) (x345003_24 : ByteArray), Aside0 (spec_l1Cur_decoder.j1 kq s0_0 t346 t347 x345000_24 x345001_24 x345002_24 x345003_24 = some (r1, r2, r3, r4, r5, r6)) ∧ Aside0 (kq ≤ kj5) ∧ Aside0 (wc.heap[gb335]? = some (.cells #[.int .i64 0, .int .i64 0, .int .i64 0, .string (⟨#[]⟩ : ByteArray)] 25 (0, 0))) ∧ Aside0 (wc.heap[gb344]? = some (.cells #[.int .i64 x345000_24, .int .i64 x345001_24, .int .i64 x345002_24, .string x345003_24] 25 (0, 0))) ∧ Aside0 (wc.heap[gb359]? = some (.cells #[.int .i64 t348, .int .i64 t349, .int .i64 t350, .string t351] 25 (0, 0))) ∧ Aside0 (IsS64 w0 wc g s0_0 t346 t347) ∧ Aside0 (KeepBut w wc g none) ∧ Aside0 (Below w0.heap.size w0 wc))
   case first =>
    have H := HC25.out
    clear HC25
    by_cases c26 : x29_5 = true
    ·subst c26
     have H1 : (spec_l1Cur_decoder.j1 kj5 s0_0 t346 t347 t348 t349 t350 t351) = some (r1, r2, r3, r4, r5, r6) := by rw [if_pos rfl] at H; exact H
     clear H
     have H := H1
     clear H1
     have H' := Aside0.mk H
     clear H
     have hnb27 := NB359_335.out
     have hnc27 := NB335_359.out
     have hnb28 := NB359_344.out
     have hnc28 := NB344_359.out
     have hnb29 := NB359_0.out
     have hnc29 := NB0_359.out
     obtain ⟨hcz30_0, hcz30_1, hcz30_2, hcz30_3⟩ := Sw.cz4 BK359.out
     obtain ⟨hfz30_0, hfz30_1, hfz30_2, hfz30_3⟩ := Sw.fz4 BK359.out
     have hnb31 := NB344_335.out
     have hnc31 := NB335_344.out
     have hnb32 := NB344_0.out
     have hnc32 := NB0_344.out
     obtain ⟨hcz33_0, hcz33_1, hcz33_2, hcz33_3⟩ := Sw.cz4 BK344.out
     obtain ⟨hfz33_0, hfz33_1, hfz33_2, hfz33_3⟩ := Sw.fz4 BK344.out
     go_wp2
     go_meet
     case rel => exact ⟨_, (t348), (t349), (t350), (t351), H', ⟨by have := HJ5.out; first | omega | exact Nat.le_refl _⟩, ⟨Sw.bf BK335.out NB335_344.out⟩, ⟨Sw.bp (Sw.p0_1_2_3 BK344.out)⟩, ⟨Sw.bf BK359.out NB359_344.out⟩, ⟨Zb49_1⟩, ⟨Zb49_0⟩, ⟨Zb49_2⟩⟩
    ·replace c26 := Bool.eq_false_iff.mpr c26
     subst c26
     have H1 : (spec_l1Cur_decoder.j1 kj5 s0_0 t346 t347 t339 t340 t341 t342) = some (r1, r2, r3, r4, r5, r6) := by rw [if_neg (show ¬ (false = true) by decide)] at H; exact H
     clear H
     have H := H1
     clear H1
     have H' := Aside0.mk H
     clear H
     go_wp2
     go_meet
     case rel => exact ⟨_, (t339), (t340), (t341), (t342), H', ⟨by have := HJ5.out; first | omega | exact Nat.le_refl _⟩, ⟨Sw.bk BK335.out⟩, ⟨Sw.bk BK344.out⟩, ⟨Sw.bk BK359.out⟩, ⟨Zb49_1⟩, ⟨Zb49_0⟩, ⟨Zb49_2⟩⟩
   case rest =>
    clear HC25
    try clear c2
    try clear p2
    try clear c3
    try clear c5
    try clear c9
    try clear c24
    try clear c26
    try clear c27
    try clear c28
    try clear c29
    try clear c31
    try clear c32
    try clear hcz30_0 hcz30_1 hcz30_2 hcz30_3
    try clear hcz33_0 hcz33_1 hcz33_2 hcz33_3
    try clear hfz30_0 hfz30_1 hfz30_2 hfz30_3
    try clear hfz33_0 hfz33_1 hfz33_2 hfz33_3
    try clear p2
    obtain ⟨kq, x345000_24, x345001_24, x345002_24, x345003_24, HA, HJ24, BK335, BK344, BK359, HI0, HK, HB⟩ := hcut
    cases kq with
    | zero => exact absurd HA.out (by simp [spec_l1Cur_decoder.j1])
    | succ kj24 =>
     have H := HA.out
     clear HA
     simp only [spec_l1Cur_decoder.j1] at H
     replace H := Option.bind_eq_some_iff.mp H
     obtain ⟨⟨t360, t361, t362⟩, A340, H⟩ := H
     replace H : (if t360 = 0 then (some (x345000_24, x345001_24, x345002_24, (⟨#[97]⟩ : ByteArray), t361, t362)) else (if t360 = 1 then ((spec_l1Cur_pick.f s0_0 t361 t362 3).bind fun bt363 => (some (x345000_24, bt363.1, x345002_24, x345003_24, bt363.2.1, bt363.2.2))) else (if t360 = 2 then ((spec_l1Cur_among.f s0_0 t361 t362 (([(-1), 3, 1000, 1001] : List Int))).bind fun bt369 => (some (x345000_24, x345001_24, bt369.1, x345003_24, bt369.2.1, bt369.2.2))) else (some (x345000_24, x345001_24, x345002_24, x345003_24, t361, t362))))) = some (r1, r2, r3, r4, r5, r6) := H
     have A34 := Aside0.mk A340
     clear A340
     by_cases c35 : t360 = 0
     ·rw [if_pos c35] at H
      have c35b0 : (t360 == 0) = true := beq_iff_eq.mpr c35
      have c35b1 : (t360 != 0) = false := bne_eq_false_iff_eq.mpr c35
      clear c35
      simp only [Option.some.injEq, Prod.mk.injEq] at H
      obtain ⟨rfl, rfl, rfl, rfl, rfl, rfl⟩ := H
      go_wp2_with (first | ((with_reducible refine gate_callee (f := 82) rfl ?_); refine goesL_ (some 32) rfl rfl Tryd.func82 (by kernel_rfl) rfl #[.pointer (some ⟨g, 0, none⟩), .int .i64 40] rfl Zb49_5 ?_; (with_reducible refine (spec_l1Cur_pick.calls g s0_0 t346 t347 40 t360 t361 t362 w0 _ ?side1 ?side2 A34.out).mono ?_); (case side1 => repeat (first | (with_reducible first | exact HI0.out | apply IsS64.alloc | apply IsS64.drewN | apply IsS64.drew | apply IsS64.set_1 | apply IsS64.set_2 | refine IsS64.far ?_ NB0_335.out _ | refine IsS64.far ?_ NB0_344.out _ | refine IsS64.far ?_ NB0_359.out _) | exact HI0.out)); (case side2 => repeat (first | (with_reducible first | exact HB.out | apply below_alloc | apply pw_below_drewN | apply below_drew1 | refine below_set ?_ (IsS64.ge HI0.out) | refine below_set ?_ GE335.out | refine below_set ?_ GE344.out | refine below_set ?_ GE359.out) | exact HB.out)); rintro e w36 ⟨rfl, hi, hb, hk⟩; refine ⟨_, rfl, ?_⟩; replace BK335 := Aside0.mk (KeepBut.blk hk (g' := gb335) (o := .cells #[.int .i64 0, .int .i64 0, .int .i64 0, .string (⟨#[]⟩ : ByteArray)] 25 (0, 0)) (Sw.bk BK335.out) NB335_0.out (by simp)); replace BK344 := Aside0.mk (KeepBut.blk hk (g' := gb344) (o := .cells #[.int .i64 x345000_24, .int .i64 x345001_24, .int .i64 x345002_24, .string x345003_24] 25 (0, 0)) (Sw.bk BK344.out) NB344_0.out (by simp)); replace BK359 := Aside0.mk (KeepBut.blk hk (g' := gb359) (o := .cells #[.int .i64 t348, .int .i64 t349, .int .i64 t350, .string t351] 25 (0, 0)) (Sw.bk BK359.out) NB359_0.out (by simp)); replace HK := Aside0.mk (KeepBut.trans Zb49_0 hk (.inl rfl)); replace HB := Aside0.mk (hb); replace HI0 := Aside0.mk (hi); (try clear hb); (try clear hb2); (try clear hk); (try clear hi); have hnb37 := NB344_335.out; have hnc37 := NB335_344.out; have hnb38 := NB344_359.out; have hnc38 := NB359_344.out; have hnb39 := NB344_0.out; have hnc39 := NB0_344.out; obtain ⟨hcz40_0, hcz40_1, hcz40_2, hcz40_3⟩ := Sw.cz4 BK344.out; obtain ⟨hfz40_0, hfz40_1, hfz40_2, hfz40_3⟩ := Sw.fz4 BK344.out; have hnb41 := NB335_359.out; have hnc41 := NB359_335.out; have hnb42 := NB335_0.out; have hnc42 := NB0_335.out; obtain ⟨hcz43_0, hcz43_1, hcz43_2, hcz43_3⟩ := Sw.cz4 BK335.out; obtain ⟨hfz43_0, hfz43_1, hfz43_2, hfz43_3⟩ := Sw.fz4 BK335.out))
      refine bodyPost_ret (results_cell_row rfl _ _ gb335 25 #[.int .i64 x345000_24, .int .i64 x345001_24, .int .i64 x345002_24, .string (⟨#[97]⟩ : ByteArray)] (0, 0) _ rfl (by (with_reducible repeat (first | refine blk_drewN ?_ _ | refine blk_drew ?_ | refine blk_alloc ?_ _)); refine blk_put (cs := #[.int .i64 x345000_24, .int .i64 x345001_24, .int .i64 x345002_24, .string (⟨#[]⟩ : ByteArray)]) ?_ 3 _ rfl; (with_reducible repeat (first | refine blk_drewN ?_ _ | refine blk_drew ?_ | refine blk_alloc ?_ _)); refine blk_put (cs := #[.int .i64 x345000_24, .int .i64 x345001_24, .int .i64 0, .string (⟨#[]⟩ : ByteArray)]) ?_ 2 _ rfl; (with_reducible repeat (first | refine blk_drewN ?_ _ | refine blk_drew ?_ | refine blk_alloc ?_ _)); refine blk_put (cs := #[.int .i64 x345000_24, .int .i64 0, .int .i64 0, .string (⟨#[]⟩ : ByteArray)]) ?_ 1 _ rfl; (with_reducible repeat (first | refine blk_drewN ?_ _ | refine blk_drew ?_ | refine blk_alloc ?_ _)); refine blk_put (cs := #[.int .i64 0, .int .i64 0, .int .i64 0, .string (⟨#[]⟩ : ByteArray)]) ?_ 0 _ rfl; (with_reducible repeat (first | refine blk_drewN ?_ _ | refine blk_drew ?_ | refine blk_alloc ?_ _)); refine blk_far ?_ NB335_344.out _; (with_reducible repeat (first | refine blk_drewN ?_ _ | refine blk_drew ?_ | refine blk_alloc ?_ _)); exact BK335.out) Tryd.underlying25 rfl (by kernel_rfl)) rfl ?_
      exact ⟨Sw.e, Zb49_1, Zb49_2, Zb49_0⟩
     ·rw [if_neg c35] at H
      have c35b0 : (t360 == 0) = false := beq_eq_false_iff_ne.mpr c35
      have c35b1 : (t360 != 0) = true := bne_iff_ne.mpr c35
      by_cases c44 : t360 = 1
      ·rw [if_pos c44] at H
       have c44b0 : (t360 == 1) = true := beq_iff_eq.mpr c44
       have c44b1 : (t360 != 1) = false := bne_eq_false_iff_eq.mpr c44
       clear c44
       replace H := Option.bind_eq_some_iff.mp H
       obtain ⟨⟨t363, t364, t365⟩, A450, H⟩ := H
       replace H : (some (x345000_24, t363, x345002_24, x345003_24, t364, t365)) = some (r1, r2, r3, r4, r5, r6) := H
       have A45 := Aside0.mk A450
       clear A450
       simp only [Option.some.injEq, Prod.mk.injEq] at H
       obtain ⟨rfl, rfl, rfl, rfl, rfl, rfl⟩ := H
       go_wp2_with (first | ((with_reducible refine gate_callee (f := 82) rfl ?_); refine goesL_ (some 32) rfl rfl Tryd.func82 (by kernel_rfl) rfl #[.pointer (some ⟨g, 0, none⟩), .int .i64 40] rfl Zb49_5 ?_; (with_reducible refine (spec_l1Cur_pick.calls g s0_0 t346 t347 40 t360 t361 t362 w0 _ ?side1 ?side2 A34.out).mono ?_); (case side1 => repeat (first | (with_reducible first | exact HI0.out | apply IsS64.alloc | apply IsS64.drewN | apply IsS64.drew | apply IsS64.set_1 | apply IsS64.set_2 | refine IsS64.far ?_ NB0_335.out _ | refine IsS64.far ?_ NB0_344.out _ | refine IsS64.far ?_ NB0_359.out _) | exact HI0.out)); (case side2 => repeat (first | (with_reducible first | exact HB.out | apply below_alloc | apply pw_below_drewN | apply below_drew1 | refine below_set ?_ (IsS64.ge HI0.out) | refine below_set ?_ GE335.out | refine below_set ?_ GE344.out | refine below_set ?_ GE359.out) | exact HB.out)); rintro e w46 ⟨rfl, hi, hb, hk⟩; refine ⟨_, rfl, ?_⟩; replace BK335 := Aside0.mk (KeepBut.blk hk (g' := gb335) (o := .cells #[.int .i64 0, .int .i64 0, .int .i64 0, .string (⟨#[]⟩ : ByteArray)] 25 (0, 0)) (Sw.bk BK335.out) NB335_0.out (by simp)); replace BK344 := Aside0.mk (KeepBut.blk hk (g' := gb344) (o := .cells #[.int .i64 x345000_24, .int .i64 x345001_24, .int .i64 x345002_24, .string x345003_24] 25 (0, 0)) (Sw.bk BK344.out) NB344_0.out (by simp)); replace BK359 := Aside0.mk (KeepBut.blk hk (g' := gb359) (o := .cells #[.int .i64 t348, .int .i64 t349, .int .i64 t350, .string t351] 25 (0, 0)) (Sw.bk BK359.out) NB359_0.out (by simp)); replace HK := Aside0.mk (KeepBut.trans Zb49_0 hk (.inl rfl)); replace HB := Aside0.mk (hb); replace HI0 := Aside0.mk (hi); (try clear hb); (try clear hb2); (try clear hk); (try clear hi)) | ((with_reducible refine gate_callee (f := 82) rfl ?_); refine goesL_ (some 39) rfl rfl Tryd.func82 (by kernel_rfl) rfl #[.pointer (some ⟨g, 0, none⟩), .int .i64 3] rfl Zb49_5 ?_; (with_reducible refine (spec_l1Cur_pick.calls g s0_0 t361 t362 3 t363 t364 t365 w0 _ ?side1 ?side2 A45.out).mono ?_); (case side1 => repeat (first | (with_reducible first | exact HI0.out | apply IsS64.alloc | apply IsS64.drewN | apply IsS64.drew | apply IsS64.set_1 | apply IsS64.set_2 | refine IsS64.far ?_ NB0_335.out _ | refine IsS64.far ?_ NB0_344.out _ | refine IsS64.far ?_ NB0_359.out _) | exact HI0.out)); (case side2 => repeat (first | (with_reducible first | exact HB.out | apply below_alloc | apply pw_below_drewN | apply below_drew1 | refine below_set ?_ (IsS64.ge HI0.out) | refine below_set ?_ GE335.out | refine below_set ?_ GE344.out | refine below_set ?_ GE359.out) | exact HB.out)); rintro e w47 ⟨rfl, hi, hb, hk⟩; refine ⟨_, rfl, ?_⟩; replace BK335 := Aside0.mk (KeepBut.blk hk (g' := gb335) (o := .cells #[.int .i64 0, .int .i64 0, .int .i64 0, .string (⟨#[]⟩ : ByteArray)] 25 (0, 0)) (Sw.bk BK335.out) NB335_0.out (by simp)); replace BK344 := Aside0.mk (KeepBut.blk hk (g' := gb344) (o := .cells #[.int .i64 x345000_24, .int .i64 x345001_24, .int .i64 x345002_24, .string x345003_24] 25 (0, 0)) (Sw.bk BK344.out) NB344_0.out (by simp)); replace BK359 := Aside0.mk (KeepBut.blk hk (g' := gb359) (o := .cells #[.int .i64 t348, .int .i64 t349, .int .i64 t350, .string t351] 25 (0, 0)) (Sw.bk BK359.out) NB359_0.out (by simp)); replace HK := Aside0.mk (KeepBut.trans Zb49_0 hk (.inl rfl)); replace HB := Aside0.mk (hb); replace HI0 := Aside0.mk (hi); (try clear hb); (try clear hb2); (try clear hk); (try clear hi); have hnb48 := NB344_335.out; have hnc48 := NB335_344.out; have hnb49 := NB344_359.out; have hnc49 := NB359_344.out; have hnb50 := NB344_0.out; have hnc50 := NB0_344.out; obtain ⟨hcz51_0, hcz51_1, hcz51_2, hcz51_3⟩ := Sw.cz4 BK344.out; obtain ⟨hfz51_0, hfz51_1, hfz51_2, hfz51_3⟩ := Sw.fz4 BK344.out; have hnb52 := NB335_359.out; have hnc52 := NB359_335.out; have hnb53 := NB335_0.out; have hnc53 := NB0_335.out; obtain ⟨hcz54_0, hcz54_1, hcz54_2, hcz54_3⟩ := Sw.cz4 BK335.out; obtain ⟨hfz54_0, hfz54_1, hfz54_2, hfz54_3⟩ := Sw.fz4 BK335.out))
       refine bodyPost_ret (results_cell_row rfl _ _ gb335 25 #[.int .i64 x345000_24, .int .i64 t363, .int .i64 x345002_24, .string x345003_24] (0, 0) _ rfl (by (with_reducible repeat (first | refine blk_drewN ?_ _ | refine blk_drew ?_ | refine blk_alloc ?_ _)); refine blk_put (cs := #[.int .i64 x345000_24, .int .i64 t363, .int .i64 x345002_24, .string (⟨#[]⟩ : ByteArray)]) ?_ 3 _ rfl; (with_reducible repeat (first | refine blk_drewN ?_ _ | refine blk_drew ?_ | refine blk_alloc ?_ _)); refine blk_put (cs := #[.int .i64 x345000_24, .int .i64 t363, .int .i64 0, .string (⟨#[]⟩ : ByteArray)]) ?_ 2 _ rfl; (with_reducible repeat (first | refine blk_drewN ?_ _ | refine blk_drew ?_ | refine blk_alloc ?_ _)); refine blk_put (cs := #[.int .i64 x345000_24, .int .i64 0, .int .i64 0, .string (⟨#[]⟩ : ByteArray)]) ?_ 1 _ rfl; (with_reducible repeat (first | refine blk_drewN ?_ _ | refine blk_drew ?_ | refine blk_alloc ?_ _)); refine blk_put (cs := #[.int .i64 0, .int .i64 0, .int .i64 0, .string (⟨#[]⟩ : ByteArray)]) ?_ 0 _ rfl; (with_reducible repeat (first | refine blk_drewN ?_ _ | refine blk_drew ?_ | refine blk_alloc ?_ _)); refine blk_far ?_ NB335_344.out _; (with_reducible repeat (first | refine blk_drewN ?_ _ | refine blk_drew ?_ | refine blk_alloc ?_ _)); exact BK335.out) Tryd.underlying25 rfl (by kernel_rfl)) rfl ?_
       exact ⟨Sw.e, Zb49_1, Zb49_2, Zb49_0⟩
      ·rw [if_neg c44] at H
       have c44b0 : (t360 == 1) = false := beq_eq_false_iff_ne.mpr c44
       have c44b1 : (t360 != 1) = true := bne_iff_ne.mpr c44
       by_cases c55 : t360 = 2
       ·rw [if_pos c55] at H
        have c55b0 : (t360 == 2) = true := beq_iff_eq.mpr c55
        have c55b1 : (t360 != 2) = false := bne_eq_false_iff_eq.mpr c55
        clear c55
        obtain ⟨y366, hy366⟩ : ∃ y_ : List Int, y_ = (([(-1), 3, 1000, 1001] : List Int)) := ⟨_, rfl⟩
        replace H : ((spec_l1Cur_among.f s0_0 t361 t362 y366).bind fun bt369 => (some (x345000_24, x345001_24, bt369.1, x345003_24, bt369.2.1, bt369.2.2))) = some (r1, r2, r3, r4, r5, r6) := by first | (rw [hy366]; with_reducible exact H) | (have H2_ := (Option.bind_some _ _).symm.trans H; rw [hy366]; with_reducible exact H2_) | (have H2_ := (Option.bind_some _ _).symm.trans H; with_reducible exact H2_) | with_reducible exact H | (rw [hy366]; exact H) | exact H
        have Ny366 := Aside0.mk hy366
        clear hy366
        replace H := Option.bind_eq_some_iff.mp H
        obtain ⟨⟨t369, t370, t371⟩, A560, H⟩ := H
        replace H : (some (x345000_24, x345001_24, t369, x345003_24, t370, t371)) = some (r1, r2, r3, r4, r5, r6) := H
        have A56 := Aside0.mk A560
        clear A560
        simp only [Option.some.injEq, Prod.mk.injEq] at H
        obtain ⟨rfl, rfl, rfl, rfl, rfl, rfl⟩ := H
        go_wp2_with (first | ((with_reducible refine gate_callee (f := 82) rfl ?_); refine goesL_ (some 32) rfl rfl Tryd.func82 (by kernel_rfl) rfl #[.pointer (some ⟨g, 0, none⟩), .int .i64 40] rfl Zb49_5 ?_; (with_reducible refine (spec_l1Cur_pick.calls g s0_0 t346 t347 40 t360 t361 t362 w0 _ ?side1 ?side2 A34.out).mono ?_); (case side1 => repeat (first | (with_reducible first | exact HI0.out | apply IsS64.alloc | apply IsS64.drewN | apply IsS64.drew | apply IsS64.set_1 | apply IsS64.set_2 | refine IsS64.far ?_ NB0_335.out _ | refine IsS64.far ?_ NB0_344.out _ | refine IsS64.far ?_ NB0_359.out _) | exact HI0.out)); (case side2 => repeat (first | (with_reducible first | exact HB.out | apply below_alloc | apply pw_below_drewN | apply below_drew1 | refine below_set ?_ (IsS64.ge HI0.out) | refine below_set ?_ GE335.out | refine below_set ?_ GE344.out | refine below_set ?_ GE359.out) | exact HB.out)); rintro e w57 ⟨rfl, hi, hb, hk⟩; refine ⟨_, rfl, ?_⟩; replace BK335 := Aside0.mk (KeepBut.blk hk (g' := gb335) (o := .cells #[.int .i64 0, .int .i64 0, .int .i64 0, .string (⟨#[]⟩ : ByteArray)] 25 (0, 0)) (Sw.bk BK335.out) NB335_0.out (by simp)); replace BK344 := Aside0.mk (KeepBut.blk hk (g' := gb344) (o := .cells #[.int .i64 x345000_24, .int .i64 x345001_24, .int .i64 x345002_24, .string x345003_24] 25 (0, 0)) (Sw.bk BK344.out) NB344_0.out (by simp)); replace BK359 := Aside0.mk (KeepBut.blk hk (g' := gb359) (o := .cells #[.int .i64 t348, .int .i64 t349, .int .i64 t350, .string t351] 25 (0, 0)) (Sw.bk BK359.out) NB359_0.out (by simp)); replace HK := Aside0.mk (KeepBut.trans Zb49_0 hk (.inl rfl)); replace HB := Aside0.mk (hb); replace HI0 := Aside0.mk (hi); (try clear hb); (try clear hb2); (try clear hk); (try clear hi)) | ((with_reducible refine gate_dst (N := 44) rfl ?_); refine Kd.R_lit (Kd.int .i64) _ 3 ?hg (N := 44) ?hd (xs := ([(-1), 3, 1000, 1001] : List Int)) (inner := [.int .i64 (-1), .int .i64 3, .int .i64 1000, .int .i64 1001]) (ok := fun _ => True) (okp := fun _ => True) ?hr ?hp (fun _ hk => hk) trivial (Below.refl _ _) (Nat.le_refl _) (by simp) ?_; (case hd => rfl); (case hg => rfl); (case hr => first | (go_simp; done) | (go_simp; rfl)); (case hp => exact (Reps.one (show Kd.M (Kd.int .i64) _ _ _ (-1) [.int .i64 (-1)] from rfl) (Reps.one (show Kd.M (Kd.int .i64) _ _ _ 3 [.int .i64 3] from rfl) (Reps.one (show Kd.M (Kd.int .i64) _ _ _ 1000 [.int .i64 1000] from rfl) (Reps.one (show Kd.M (Kd.int .i64) _ _ _ 1001 [.int .i64 1001] from rfl) (Reps.none _ _)))))); intro v367 w58 ho59 hb hg_ hnew_; clear hg_ hnew_; (first | rw [← Ny366.out] at ho59 | (simp only [Int.reduceToNat] at ho59; rw [← Ny366.out] at ho59)); have HO368 := Aside0.mk (Kd.R_lower ho59 (keep_size (w := w) (g := g) (row := none) Zb49_0)); replace BK335 := Aside0.mk (Sw.bl BK335.out hb); replace BK344 := Aside0.mk (Sw.bl BK344.out hb); replace BK359 := Aside0.mk (Sw.bl BK359.out hb); replace HK := Aside0.mk (KeepBut.trans Zb49_0 (KeepBut.of_below hb g none) (.inl rfl)); replace HB := Aside0.mk (below_step Zb49_2 hb); replace HI0 := Aside0.mk (IsS64.below Zb49_1 hb); clear hb ho59; obtain ⟨Ao60, co60, eo60⟩ := Kd.R_slice HO368.out; subst eo60) | ((with_reducible refine gate_callee (f := 87) rfl ?_); refine goesL_ (some 45) rfl rfl Tryd.func87 (by kernel_rfl) rfl #[.pointer (some ⟨g, 0, none⟩), .slice Ao60 y366.length co60] rfl Zb49_5 ?_; (with_reducible refine (spec_l1Cur_among.calls g s0_0 t361 t362 _ _ y366 t369 t370 t371 w0 _ ?side1 ?side2 ?side3 ?side4 ?side5 A56.out).mono ?_); (case side1 => repeat (first | (with_reducible first | exact HI0.out | apply IsS64.alloc | apply IsS64.drewN | apply IsS64.drew | apply IsS64.set_1 | apply IsS64.set_2 | refine IsS64.far ?_ NB0_335.out _ | refine IsS64.far ?_ NB0_344.out _ | refine IsS64.far ?_ NB0_359.out _) | exact HI0.out)); (case side2 => repeat (first | (with_reducible first | exact HB.out | apply below_alloc | apply pw_below_drewN | apply below_drew1 | refine below_set ?_ (IsS64.ge HI0.out) | refine below_set ?_ GE335.out | refine below_set ?_ GE344.out | refine below_set ?_ GE359.out) | exact HB.out)); (case side3 => repeat (first | exact (Kd.R_reads' HO368.out).2.2 | (with_reducible refine Kd.C_alloc ?_ _) | (with_reducible refine Kd.C_drewN ?_ _) | (with_reducible refine Kd.C_drew ?_))); (case side4 => exact (Kd.R_reads' HO368.out).2.1); (case side5 => exact far_slice (IsS64.own_ne HI0.out HO368.out (by decide))); rintro e w61 ⟨rfl, hi, hb, hk⟩; refine ⟨_, rfl, ?_⟩; replace BK335 := Aside0.mk (KeepBut.blk hk (g' := gb335) (o := .cells #[.int .i64 0, .int .i64 0, .int .i64 0, .string (⟨#[]⟩ : ByteArray)] 25 (0, 0)) (Sw.bk BK335.out) NB335_0.out (by simp)); replace BK344 := Aside0.mk (KeepBut.blk hk (g' := gb344) (o := .cells #[.int .i64 x345000_24, .int .i64 x345001_24, .int .i64 x345002_24, .string x345003_24] 25 (0, 0)) (Sw.bk BK344.out) NB344_0.out (by simp)); replace BK359 := Aside0.mk (KeepBut.blk hk (g' := gb359) (o := .cells #[.int .i64 t348, .int .i64 t349, .int .i64 t350, .string t351] 25 (0, 0)) (Sw.bk BK359.out) NB359_0.out (by simp)); replace HO368 := Aside0.mk (Kd.R_mono (Kd.R_keep (IsS64.apart (show IsS64 w0 _ g s0_0 t361 t362 from Zb49_1) (Sw.rt HO368.out) (by decide)) hk (fun _ h => h.2)) (fun _ h => h.1)); replace HK := Aside0.mk (KeepBut.trans Zb49_0 hk (.inl rfl)); replace HB := Aside0.mk (hb); replace HI0 := Aside0.mk (hi); (try clear hb); (try clear hb2); (try clear hk); (try clear hi); have hnb62 := NB344_335.out; have hnc62 := NB335_344.out; have hnb63 := NB344_359.out; have hnc63 := NB359_344.out; have hnb64 := NB344_0.out; have hnc64 := NB0_344.out; obtain ⟨hcz65_0, hcz65_1, hcz65_2, hcz65_3⟩ := Sw.cz4 BK344.out; obtain ⟨hfz65_0, hfz65_1, hfz65_2, hfz65_3⟩ := Sw.fz4 BK344.out; have hnb66 := NB335_359.out; have hnc66 := NB359_335.out; have hnb67 := NB335_0.out; have hnc67 := NB0_335.out; obtain ⟨hcz68_0, hcz68_1, hcz68_2, hcz68_3⟩ := Sw.cz4 BK335.out; obtain ⟨hfz68_0, hfz68_1, hfz68_2, hfz68_3⟩ := Sw.fz4 BK335.out))
        refine bodyPost_ret (results_cell_row rfl _ _ gb335 25 #[.int .i64 x345000_24, .int .i64 x345001_24, .int .i64 t369, .string x345003_24] (0, 0) _ rfl (by (with_reducible repeat (first | refine blk_drewN ?_ _ | refine blk_drew ?_ | refine blk_alloc ?_ _)); refine blk_put (cs := #[.int .i64 x345000_24, .int .i64 x345001_24, .int .i64 t369, .string (⟨#[]⟩ : ByteArray)]) ?_ 3 _ rfl; (with_reducible repeat (first | refine blk_drewN ?_ _ | refine blk_drew ?_ | refine blk_alloc ?_ _)); refine blk_put (cs := #[.int .i64 x345000_24, .int .i64 x345001_24, .int .i64 0, .string (⟨#[]⟩ : ByteArray)]) ?_ 2 _ rfl; (with_reducible repeat (first | refine blk_drewN ?_ _ | refine blk_drew ?_ | refine blk_alloc ?_ _)); refine blk_put (cs := #[.int .i64 x345000_24, .int .i64 0, .int .i64 0, .string (⟨#[]⟩ : ByteArray)]) ?_ 1 _ rfl; (with_reducible repeat (first | refine blk_drewN ?_ _ | refine blk_drew ?_ | refine blk_alloc ?_ _)); refine blk_put (cs := #[.int .i64 0, .int .i64 0, .int .i64 0, .string (⟨#[]⟩ : ByteArray)]) ?_ 0 _ rfl; (with_reducible repeat (first | refine blk_drewN ?_ _ | refine blk_drew ?_ | refine blk_alloc ?_ _)); refine blk_far ?_ NB335_344.out _; (with_reducible repeat (first | refine blk_drewN ?_ _ | refine blk_drew ?_ | refine blk_alloc ?_ _)); exact BK335.out) Tryd.underlying25 rfl (by kernel_rfl)) rfl ?_
        exact ⟨Sw.e, Zb49_1, Zb49_2, Zb49_0⟩
       ·rw [if_neg c55] at H
        have c55b0 : (t360 == 2) = false := beq_eq_false_iff_ne.mpr c55
        have c55b1 : (t360 != 2) = true := bne_iff_ne.mpr c55
        simp only [Option.some.injEq, Prod.mk.injEq] at H
        obtain ⟨rfl, rfl, rfl, rfl, rfl, rfl⟩ := H
        go_wp2_with (first | ((with_reducible refine gate_callee (f := 82) rfl ?_); refine goesL_ (some 32) rfl rfl Tryd.func82 (by kernel_rfl) rfl #[.pointer (some ⟨g, 0, none⟩), .int .i64 40] rfl Zb49_5 ?_; (with_reducible refine (spec_l1Cur_pick.calls g s0_0 t346 t347 40 t360 t361 t362 w0 _ ?side1 ?side2 A34.out).mono ?_); (case side1 => repeat (first | (with_reducible first | exact HI0.out | apply IsS64.alloc | apply IsS64.drewN | apply IsS64.drew | apply IsS64.set_1 | apply IsS64.set_2 | refine IsS64.far ?_ NB0_335.out _ | refine IsS64.far ?_ NB0_344.out _ | refine IsS64.far ?_ NB0_359.out _) | exact HI0.out)); (case side2 => repeat (first | (with_reducible first | exact HB.out | apply below_alloc | apply pw_below_drewN | apply below_drew1 | refine below_set ?_ (IsS64.ge HI0.out) | refine below_set ?_ GE335.out | refine below_set ?_ GE344.out | refine below_set ?_ GE359.out) | exact HB.out)); rintro e w69 ⟨rfl, hi, hb, hk⟩; refine ⟨_, rfl, ?_⟩; replace BK335 := Aside0.mk (KeepBut.blk hk (g' := gb335) (o := .cells #[.int .i64 0, .int .i64 0, .int .i64 0, .string (⟨#[]⟩ : ByteArray)] 25 (0, 0)) (Sw.bk BK335.out) NB335_0.out (by simp)); replace BK344 := Aside0.mk (KeepBut.blk hk (g' := gb344) (o := .cells #[.int .i64 x345000_24, .int .i64 x345001_24, .int .i64 x345002_24, .string x345003_24] 25 (0, 0)) (Sw.bk BK344.out) NB344_0.out (by simp)); replace BK359 := Aside0.mk (KeepBut.blk hk (g' := gb359) (o := .cells #[.int .i64 t348, .int .i64 t349, .int .i64 t350, .string t351] 25 (0, 0)) (Sw.bk BK359.out) NB359_0.out (by simp)); replace HK := Aside0.mk (KeepBut.trans Zb49_0 hk (.inl rfl)); replace HB := Aside0.mk (hb); replace HI0 := Aside0.mk (hi); (try clear hb); (try clear hb2); (try clear hk); (try clear hi); have hnb70 := NB344_335.out; have hnc70 := NB335_344.out; have hnb71 := NB344_359.out; have hnc71 := NB359_344.out; have hnb72 := NB344_0.out; have hnc72 := NB0_344.out; obtain ⟨hcz73_0, hcz73_1, hcz73_2, hcz73_3⟩ := Sw.cz4 BK344.out; obtain ⟨hfz73_0, hfz73_1, hfz73_2, hfz73_3⟩ := Sw.fz4 BK344.out; have hnb74 := NB335_359.out; have hnc74 := NB359_335.out; have hnb75 := NB335_0.out; have hnc75 := NB0_335.out; obtain ⟨hcz76_0, hcz76_1, hcz76_2, hcz76_3⟩ := Sw.cz4 BK335.out; obtain ⟨hfz76_0, hfz76_1, hfz76_2, hfz76_3⟩ := Sw.fz4 BK335.out))
        refine bodyPost_ret (results_cell_row rfl _ _ gb335 25 #[.int .i64 x345000_24, .int .i64 x345001_24, .int .i64 x345002_24, .string x345003_24] (0, 0) _ rfl (Sw.bp (Sw.p0_1_2_3 BK335.out)) Tryd.underlying25 rfl (by kernel_rfl)) rfl ?_
        exact ⟨Sw.e, Zb49_1, Zb49_2, Zb49_0⟩

theorem Zb7_0 {p : Prop} (h : p := by repeat (first | (with_reducible first | exact HI373.out | apply IsS64.alloc | apply IsS64.drewN | apply IsS64.drew | apply IsS64.set_1 | apply IsS64.set_2 | refine IsS64.far ?_ NB373_372.out _) | exact HI373.out)) : p := h
theorem Zw7.tv {P : Program} {ops : Array Oper} {Q : Exit → Act → World → Prop} {md : Region.Mode} {S : World → Prop} {ds : List Nat} {oi : Oper} {v : Value} {fuel : Nat} {l : Array Bool} {a a' : Act} {w : World}
  (hS : S w) (i : Nat) (N : Tmp) (l' : Array Bool) (h : wpAnyLast P md ops Q S ds fuel l' a' w) (hi : ops[i]? = some oi := by rfl) (hN : oi.dst = some N := by rfl) (hc : takeB md ops ds l l' i = true := by kernel_rfl)
  (hQ : ∀ c a w, Q (.panic c) (a.put oi.dst v) w → Q (.panic c) a w := by exact fun _ _ _ h => h) (hw : Region.wanted oi (yielded ops a.tmps) = true := by rfl)
  (hy : ∀ w, S w → (execOp a.eval oi).run P w = .ok (.value v) w := by (rintro w' ⟨s0, s1, s2, s3⟩; go_simp; with_reducible rfl)) (ha : a.put (some N) v = a' := by (simp only [Act.put, List.setIfInBounds_toArray, List.set_cons_zero, List.set_cons_succ, i64_w, i32_w]; rfl)) :
  wpAnyLast P md ops Q S ds (fuel + 1) l a w := take_ l' hi hN hc hQ (.inl ⟨hw, hy⟩) hS ha h
def spec_DrawFeedDecoder.f (k : Nat) (l0 : List Int) : Option (Int × Int × Int × ByteArray × ByteArray) := (spec_l1Cur_decoder.f k l0 0 0).bind fun bt374 => ((spec_l1Cur_coded.f k l0 bt374.2.2.2.2.1 bt374.2.2.2.2.2 bt374.1).bind fun bt381 => (some (bt374.1, bt374.2.1, bt374.2.2.1, bt374.2.2.2.1, bt381.1)))
theorem spec_DrawFeedDecoder.mono : ∀ a0 k, LeO (spec_DrawFeedDecoder.f k a0) (spec_DrawFeedDecoder.f (k + 1) a0) := by
 intro a0 k
 unfold spec_DrawFeedDecoder.f
 with_reducible repeat' first | exact spec_l1Cur_coded.mono _ _ _ _ _ | exact spec_l1Cur_decoder.mono _ _ _ _ | exact LeO.refl _ | exact LeO.none _ | refine LeO.ite ?_ ?_ | refine LeO.bind ?_ (fun _ => ?_)
theorem spec_DrawFeedDecoder.calls (k : Nat) (A0 : Option Addr) (c0 : Nat) (l0 : List Int) (r1 : Int) (r2 : Int) (r3 : Int) (r4 : ByteArray) (r5 : ByteArray) (w : World) (hr0 : Kd.C (Kd.int .u8) w A0 l0.length l0) (hc0 : l0.length ≤ c0) (h : spec_DrawFeedDecoder.f k l0 = some (r1, r2, r3, r4, r5)) :
  Calls Tryd.prog 7 #[.slice A0 l0.length c0] w fun e w' => e = .returned (.tuple #[.agg #[.int .i64 r1, .int .i64 r2, .int .i64 r3, .string r4], .string r5]) ∧ Below w.heap.size w w' := by
 have hu25 := Tryd.underlying25
 have hu64 := Tryd.underlying64
 have HR0 := Aside0.mk hr0
 have HC0 := Aside0.mk hc0
 clear hr0 hc0
 have HB := Aside0.mk (Below.refl w.heap.size w)
 have H : ((spec_l1Cur_decoder.f k l0 0 0).bind fun bt374 => ((spec_l1Cur_coded.f k l0 bt374.2.2.2.2.1 bt374.2.2.2.2.2 bt374.1).bind fun bt381 => (some (bt374.1, bt374.2.1, bt374.2.2.1, bt374.2.2.2.1, bt381.1)))) = some (r1, r2, r3, r4, r5) := h
 clear h
 replace H := Option.bind_eq_some_iff.mp H
 obtain ⟨⟨t374, t375, t376, t377, t378, t379⟩, A20, H⟩ := H
 replace H : ((spec_l1Cur_coded.f k l0 t378 t379 t374).bind fun bt381 => (some (t374, t375, t376, t377, bt381.1))) = some (r1, r2, r3, r4, r5) := H
 have A2 := Aside0.mk A20
 clear A20
 replace H := Option.bind_eq_some_iff.mp H
 obtain ⟨⟨t381, t382, t383⟩, A30, H⟩ := H
 replace H : (some (t374, t375, t376, t377, t381)) = some (r1, r2, r3, r4, r5) := H
 have A3 := Aside0.mk A30
 clear A30
 simp only [Option.some.injEq, Prod.mk.injEq] at H
 obtain ⟨rfl, rfl, rfl, rfl, rfl⟩ := H
 go_enter Tryd.func7, Tryd.ntmps7
 try go_wp2_with (first | ((with_reducible refine gate_dst (N := 2) rfl ?_); refine box_event ?hg (N := 2) ?hd (cs := #[.int .i64 0, .int .i64 0, .int .i64 0, .string (⟨#[]⟩ : ByteArray)]) (t := 25) ?hr ?_; (case hd => rfl); (case hg => rfl); (case hr => go_simp <;> rfl); intro gb372 hg w4 hbox hb; have BK372 := Aside0.mk (hbox); have GW372 := Aside0.mk ((Sw.gs hg)); have GE372 := Aside0.mk ((Sw.gs hg)); replace HB := Aside0.mk (below_step Sw.hb hb); clear hb hbox hg) | ((with_reducible refine gate_dst (N := 8) rfl ?_); refine box_event ?hg (N := 8) ?hd (cs := #[.slice A0 l0.length c0, .int .i64 0, .int .u64 0]) (t := 64) ?hr ?_; (case hd => rfl); (case hg => rfl); (case hr => go_simp <;> rfl); intro gb373 hg w5 hbox hb; have n0_ := Aside0.mk (Sw.bl BK372.out hb); have n1_ := Aside0.mk (below_step Sw.hb hb); have n2_ := Aside0.mk (Sw.nl hg BK372.out); have n3_ := Aside0.mk (Sw.ng hg BK372.out); have n4_ := Aside0.mk ((⟨_, _, hbox, (by rw [hg]; exact (below_size Sw.hb)), HR0.out⟩ : IsS64 w w5 gb373 l0 0 0)); clear BK372; clear HB; have BK372 := n0_; have HB := n1_; have NB372_373 := n2_; have NB373_372 := n3_; have HI373 := n4_; clear n0_ n1_ n2_ n3_ n4_; clear hb hbox hg) | ((with_reducible refine gate_callee (f := 49) rfl ?_); refine goesL_ (some 10) rfl rfl Tryd.func49 (by kernel_rfl) rfl #[.pointer (some ⟨gb373, 0, none⟩)] rfl (by simp only [List.map_toArray, List.map_cons, List.map_nil] <;> rfl) ?_; (with_reducible refine (spec_l1Cur_decoder.calls k gb373 l0 0 0 t374 t375 t376 t377 t378 t379 w _ ?side1 ?side2 A2.out).mono ?_); (case side1 => exact HI373.out); (case side2 => exact HB.out); rintro e w6 ⟨rfl, hi, hb, hk⟩; refine ⟨_, rfl, ?_⟩; replace BK372 := Aside0.mk (KeepBut.blk hk (g' := gb372) (o := .cells #[.int .i64 0, .int .i64 0, .int .i64 0, .string (⟨#[]⟩ : ByteArray)] 25 (0, 0)) (Sw.bk BK372.out) NB372_373.out (by simp)); replace HB := Aside0.mk (hb); replace HI373 := Aside0.mk (hi)) | ((with_reducible refine gate_dst (N := 5) rfl ?_); refine box_event ?hg (N := 5) ?hd (cs := #[.int .i64 0, .int .i64 0, .int .i64 0, .string (⟨#[]⟩ : ByteArray)]) (t := 25) ?hr ?_; (case hd => rfl); (case hg => rfl); (case hr => go_simp <;> rfl); intro gb380 hg w7 hbox hb; have n0_ := Aside0.mk (Sw.bl BK372.out hb); have n1_ := Aside0.mk (IsS64.below HI373.out hb); have n2_ := Aside0.mk (below_step HB.out hb); have n3_ := Aside0.mk (hbox); have n4_ := Aside0.mk ((by rw [hg]; exact (below_size HB.out) : w.heap.size ≤ gb380)); have n5_ := Aside0.mk ((by rw [hg]; exact (below_size HB.out) : w.heap.size ≤ gb380)); have n6_ := Aside0.mk (Sw.nl hg BK372.out); have n7_ := Aside0.mk (Sw.ng hg BK372.out); have n8_ := Aside0.mk ((by rw [hg]; exact Nat.ne_of_lt (IsS64.lt (show IsS64 w _ gb373 l0 t378 t379 from Zb7_0)) : gb373 ≠ gb380)); have n9_ := Aside0.mk ((by rw [hg]; exact Nat.ne_of_gt (IsS64.lt (show IsS64 w _ gb373 l0 t378 t379 from Zb7_0)) : gb380 ≠ gb373)); clear BK372; clear HI373; clear HB; have BK372 := n0_; have HI373 := n1_; have HB := n2_; have BK380 := n3_; have GW380 := n4_; have GE380 := n5_; have NB372_380 := n6_; have NB380_372 := n7_; have NB373_380 := n8_; have NB380_373 := n9_; clear n0_ n1_ n2_ n3_ n4_ n5_ n6_ n7_ n8_ n9_; clear hb hbox hg; have hnb8 := NB380_372.out; have hnc8 := NB372_380.out; have hnb9 := NB380_373.out; have hnc9 := NB373_380.out; obtain ⟨hcz10_0, hcz10_1, hcz10_2, hcz10_3⟩ := Sw.cz4 BK380.out; obtain ⟨hfz10_0, hfz10_1, hfz10_2, hfz10_3⟩ := Sw.fz4 BK380.out))
 generalize hq_ : ((((w7.setCell ⟨gb380, 0, none⟩ (.int .i64 t374)).setCell ⟨gb380, 1, none⟩ (.int .i64 t375)).setCell ⟨gb380, 2, none⟩ (.int .i64 t376)).setCell ⟨gb380, 3, none⟩ (.string t377)) = w11
 replace BK372 : Aside0 (w11.heap[gb372]? = some (.cells #[.int .i64 0, .int .i64 0, .int .i64 0, .string (⟨#[]⟩ : ByteArray)] 25 (0, 0))) := ⟨by rw [← hq_]; exact Sw.bf BK372.out NB372_380.out⟩
 replace BK380 : Aside0 (w11.heap[gb380]? = some (.cells #[.int .i64 t374, .int .i64 t375, .int .i64 t376, .string t377] 25 (0, 0))) := ⟨by rw [← hq_]; exact Sw.bp (Sw.p0_1_2_3 BK380.out)⟩
 replace HB : Aside0 (Below w.heap.size w w11) := ⟨by rw [← hq_]; repeat (first | (with_reducible first | exact HB.out | apply below_alloc | apply pw_below_drewN | apply below_drew1 | refine below_set ?_ (IsS64.ge HI373.out) | refine below_set ?_ GE372.out | refine below_set ?_ GE380.out) | exact HB.out)⟩
 replace HI373 : Aside0 (IsS64 w w11 gb373 l0 t378 t379) := ⟨by rw [← hq_]; repeat (first | (with_reducible first | exact HI373.out | apply IsS64.alloc | apply IsS64.drewN | apply IsS64.drew | apply IsS64.set_1 | apply IsS64.set_2 | refine IsS64.far ?_ NB373_372.out _ | refine IsS64.far ?_ NB373_380.out _) | exact HI373.out)⟩
 clear hq_
 replace BK372 := Aside0.mk (blk_drew BK372.out)
 replace BK380 := Aside0.mk (blk_drew BK380.out)
 replace HI373 := Aside0.mk (IsS64.drew HI373.out)
 replace HB := Aside0.mk (below_drew1 HB.out)
 refine start_ (n := 7) (S := fun w' => w'.cell? ⟨gb380, 0, none⟩ = some (.int .i64 t374) ∧ w'.cell? ⟨gb380, 1, none⟩ = some (.int .i64 t375) ∧ w'.cell? ⟨gb380, 2, none⟩ = some (.int .i64 t376) ∧ w'.cell? ⟨gb380, 3, none⟩ = some (.string t377)) (ds := []) (Sw.b 7 0) (by kernel_rfl) rfl rfl ⟨(blk_cell BK380.out 0).trans rfl, (blk_cell BK380.out 1).trans rfl, (blk_cell BK380.out 2).trans rfl, (blk_cell BK380.out 3).trans rfl⟩ (fun hHeld => ?_)
 generalize w11.drew = w12 at BK372 BK380 HI373 HB hHeld ⊢
 refine Sw.pv 1 12 (Sw.b 7 2) ?_
 refine Sw.pv 2 13 (Sw.b 7 6) ?_
 refine Zw7.tv hHeld 0 11 (Sw.b 7 7) ?_
 refine Zw7.tv hHeld 3 14 (Sw.b 7 15) ?_
 refine one_ (i := 4) (N := some 15) (Sw.b 7 31) rfl rfl (by kernel_rfl) (by decide) (fun K hK => ?_)
 refine goes_ Tryd.func50 (by kernel_rfl) rfl #[.pointer (some ⟨gb373, 0, none⟩), .int .i64 t374] (by rfl) rfl rfl (by simp only [List.map_toArray, List.map_cons, List.map_nil] <;> rfl) ?_
 with_reducible refine (spec_l1Cur_coded.calls k gb373 l0 t378 t379 t374 t381 t382 t383 w _ ?side1 ?side2 A3.out).mono ?_
 (case side1 => exact HI373.out)
 (case side2 => exact HB.out)
 rintro e w13 ⟨rfl, hi, hb, hk⟩
 refine ⟨_, rfl, ?_⟩
 replace BK372 := Aside0.mk (KeepBut.blk hk (g' := gb372) (o := .cells #[.int .i64 0, .int .i64 0, .int .i64 0, .string (⟨#[]⟩ : ByteArray)] 25 (0, 0)) (Sw.bk BK372.out) NB372_373.out (by simp))
 replace BK380 := Aside0.mk (KeepBut.blk hk (g' := gb380) (o := .cells #[.int .i64 t374, .int .i64 t375, .int .i64 t376, .string t377] 25 (0, 0)) (Sw.bk BK380.out) NB380_373.out (by simp))
 replace HB := Aside0.mk (hb)
 replace HI373 := Aside0.mk (hi)
 (try clear hb)
 (try clear hb2)
 (try clear hk)
 (try clear hi)
 refine hK.out _ _ ⟨(blk_cell BK380.out 0).trans rfl, (blk_cell BK380.out 1).trans rfl, (blk_cell BK380.out 2).trans rfl, (blk_cell BK380.out 3).trans rfl⟩ (fun hHeld => ?_)
 clear hK K
 refine norm_ (a' := ?_) ?_ ?_
 rotate_left
 ·show Act.put _ (some 15) _ = _
  simp only [Act.put, List.setIfInBounds_toArray, List.set_cons_zero, List.set_cons_succ, i64_w, i32_w]
  rfl
 refine one_ (i := 5) (N := none) (Sw.b 7 63) rfl rfl (by kernel_rfl) (by decide) (fun K hK => ?_)
 have hs14 : w13.cell? ⟨gb372, 0, none⟩ = some (.int .i64 0) := (blk_cell BK372.out 0).trans rfl
 have hfs14 := blk_frozen BK372.out 0
 have hns14_1 := NB380_372.out
 have hms14_1 := NB372_380.out
 have hs15 : w13.cell? ⟨gb372, 1, none⟩ = some (.int .i64 0) := (blk_cell BK372.out 1).trans rfl
 have hfs15 := blk_frozen BK372.out 1
 have hns15_1 := NB380_372.out
 have hms15_1 := NB372_380.out
 have hs16 : w13.cell? ⟨gb372, 2, none⟩ = some (.int .i64 0) := (blk_cell BK372.out 2).trans rfl
 have hfs16 := blk_frozen BK372.out 2
 have hns16_1 := NB380_372.out
 have hms16_1 := NB372_380.out
 have hs17 : w13.cell? ⟨gb372, 3, none⟩ = some (.string (⟨#[]⟩ : ByteArray)) := (blk_cell BK372.out 3).trans rfl
 have hfs17 := blk_frozen BK372.out 3
 have hns17_1 := NB380_372.out
 have hms17_1 := NB372_380.out
 refine skip_ (w1 := ?_) (by rfl) rfl ?_ ?_
 rotate_left
 ·go_simp
  rfl
 refine hK.out _ _ ⟨((cell_far (p := ⟨gb372, _, none⟩) NB380_372.out _).trans (((cell_far (p := ⟨gb372, _, none⟩) NB380_372.out _).trans (((cell_far (p := ⟨gb372, _, none⟩) NB380_372.out _).trans (((cell_far (p := ⟨gb372, _, none⟩) NB380_372.out _).trans (hHeld.1)))))))), ((cell_far (p := ⟨gb372, _, none⟩) NB380_372.out _).trans (((cell_far (p := ⟨gb372, _, none⟩) NB380_372.out _).trans (((cell_far (p := ⟨gb372, _, none⟩) NB380_372.out _).trans (((cell_far (p := ⟨gb372, _, none⟩) NB380_372.out _).trans (hHeld.2.1)))))))), ((cell_far (p := ⟨gb372, _, none⟩) NB380_372.out _).trans (((cell_far (p := ⟨gb372, _, none⟩) NB380_372.out _).trans (((cell_far (p := ⟨gb372, _, none⟩) NB380_372.out _).trans (((cell_far (p := ⟨gb372, _, none⟩) NB380_372.out _).trans (hHeld.2.2.1)))))))), ((cell_far (p := ⟨gb372, _, none⟩) NB380_372.out _).trans (((cell_far (p := ⟨gb372, _, none⟩) NB380_372.out _).trans (((cell_far (p := ⟨gb372, _, none⟩) NB380_372.out _).trans (((cell_far (p := ⟨gb372, _, none⟩) NB380_372.out _).trans (hHeld.2.2.2))))))))⟩ (fun hHeld => ?_)
 clear hK K
 refine Sw.pv 6 3 (Sw.b 7 127) ?_
 refine done_ (by kernel_rfl) ?_
 try go_wp2
 refine bodyPost_ret (results_ct rfl _ _ gb372 25 #[.int .i64 t374, .int .i64 t375, .int .i64 t376, .string t377] (0, 0) _ rfl (Sw.bp (Sw.p0_1_2_3 BK372.out)) Tryd.underlying25 rfl (by kernel_rfl)) rfl ?_
 exact ⟨Sw.e, by repeat (first | (with_reducible first | exact HB.out | apply below_alloc | apply pw_below_drewN | apply below_drew1 | refine below_set ?_ (IsS64.ge HI373.out) | refine below_set ?_ GE372.out | refine below_set ?_ GE380.out) | exact HB.out)⟩

theorem Zw73.tv {P : Program} {ops : Array Oper} {Q : Exit → Act → World → Prop} {md : Region.Mode} {S : World → Prop} {ds : List Nat} {oi : Oper} {v : Value} {fuel : Nat} {l : Array Bool} {a a' : Act} {w : World}
    (hS : S w) (i : Nat) (N : Tmp) (l' : Array Bool) (h : wpAnyLast P md ops Q S ds fuel l' a' w) (hi : ops[i]? = some oi := by rfl) (hN : oi.dst = some N := by rfl) (hc : takeB md ops ds l l' i = true := by kernel_rfl)
    (hQ : ∀ c a w, Q (.panic c) (a.put oi.dst v) w → Q (.panic c) a w := by exact fun _ _ _ h => h) (hw : Region.wanted oi (yielded ops a.tmps) = true := by rfl)
    (hy : ∀ w, S w → (execOp a.eval oi).run P w = .ok (.value v) w := by (rintro w' ⟨s0, s1⟩; go_simp; with_reducible rfl)) (ha : a.put (some N) v = a' := by (simp only [Act.put, List.setIfInBounds_toArray, List.set_cons_zero, List.set_cons_succ, i64_w, i32_w]; rfl)) :
    wpAnyLast P md ops Q S ds (fuel + 1) l a w := take_ l' hi hN hc hQ (.inl ⟨hw, hy⟩) hS ha h
theorem utf8_FullRuneInString.hk (w : World) (a b : Int) : (w.alloc (Obj.cells #[Value.int .u8 a, Value.int .u8 b] 102)).cell? ⟨w.heap.size, 0, none⟩ = some (.int .u8 a) ∧ (w.alloc (Obj.cells #[Value.int .u8 a, Value.int .u8 b] 102)).cell? ⟨w.heap.size, 1, none⟩ = some (.int .u8 b) := ⟨bc0 (heap_alloc_new w _), bc1 (heap_alloc_new w _)⟩
abbrev utf8_FullRuneInString.S (w : World) (a b : Int) (w' : World) : Prop := w'.cell? ⟨w.heap.size, 0, none⟩ = some (.int .u8 a) ∧ w'.cell? ⟨w.heap.size, 1, none⟩ = some (.int .u8 b)
def utf8_FullRuneInString.N (n x b1 b2 : Nat) : Bool := decide (x % 8 ≤ n) || ((decide (1 < n) && (decide (b1 < Lib.accLo (x / 16)) || decide (Lib.accHi (x / 16) < b1))) || (decide (2 < n) && (decide (b2 < 128) || decide (191 < b2))))
def utf8_FullRuneInString.f (s : ByteArray) : Option Bool := some (if s.size = 0 then false else utf8_FullRuneInString.N s.size (Lib.firstT (s.get! 0).toNat) (s.get! 1).toNat (s.get! 2).toNat)
theorem utf8_FullRuneInString.calls (s : ByteArray) (r : Bool) (w : World) (hT : Lib.Utf8Tabs 0 1 w) (h : utf8_FullRuneInString.f s = some r) :
    Calls Tryd.prog 73 #[.string s] w fun e w' => e = .returned (.bool r) ∧ Below w.heap.size w w' := by
  have u84 := Tryd.underlying102
  have h := Option.some.inj h
  by_cases h0 : s.size = 0
  · rw [if_pos h0] at h
    subst h
    have hz : (s.size : Int) = 0 := by omega
    go_enter Tryd.func73, Tryd.ntmps73
    go_wp2
    go_ret
    exact ⟨rfl, Below.refl _ _⟩
  rw [if_neg h0] at h
  have hz0 : (0 : Int) < (s.size : Int) := by omega
  have hz0' : ¬ ((s.size : Int) = 0) := by omega
  obtain ⟨x0, hx0⟩ : ∃ x0, s.get! 0 = x0 := ⟨_, rfl⟩
  obtain ⟨x1, hx1⟩ : ∃ x1, s.get! 1 = x1 := ⟨_, rfl⟩
  obtain ⟨x2, hx2⟩ : ∃ x2, s.get! 2 = x2 := ⟨_, rfl⟩
  have hs0 : s[0]'(by omega) = x0 := by rw [← hx0]; exact (Utf8W.get!_of_lt s 0 (by omega)).symm
  have l0 := x0.toNat_lt
  have l1 := x1.toNat_lt
  have l2 := x2.toNat_lt
  rw [hx0, hx1, hx2] at h
  have hc0 := hT.1 x0.toNat (by omega)
  rcases Lib.firstT_cases x0.toNat with hX | hX | hX | hX | hX | hX | hX | hX | hX
  · rw [hX] at hc0 h
    have hr : utf8_FullRuneInString.N s.size 240 x1.toNat x2.toNat = true := by unfold utf8_FullRuneInString.N; simp
    rw [hr] at h
    subst h
    clear hT hX
    go_enter Tryd.func73, Tryd.ntmps73
    go_wp2
    go_ret
    exact ⟨rfl, Below.refl _ _⟩
  · rw [hX] at hc0 h
    have hr : utf8_FullRuneInString.N s.size 241 x1.toNat x2.toNat = true := by unfold utf8_FullRuneInString.N; simp; omega
    rw [hr] at h
    subst h
    clear hT hX
    have hge : (1 : Int) ≤ (s.size : Int) := by omega
    go_enter Tryd.func73, Tryd.ntmps73
    go_wp2
    go_ret
    exact ⟨rfl, Below.refl _ _⟩
  · rw [hX] at hc0 h
    have ha0 := (hT.2 0 (by omega)).1
    have ha1 := (hT.2 0 (by omega)).2
    simp only [Lib.accLo, Lib.accHi, Nat.reduceMul, Nat.reduceAdd, Nat.reduceEqDiff, if_true, if_false] at ha0 ha1
    by_cases hn : 2 ≤ s.size
    · have hr : utf8_FullRuneInString.N s.size 2 x1.toNat x2.toNat = true := by unfold utf8_FullRuneInString.N; simp; omega
      rw [hr] at h
      subst h
      clear hT hX
      have hge : (2 : Int) ≤ (s.size : Int) := by omega
      go_enter Tryd.func73, Tryd.ntmps73
      go_wp2
      go_ret
      exact ⟨rfl, Below.refl _ _⟩
    have hn1 : s.size = 1 := by omega
    rw [hn1] at h
    have hsz : (s.size : Int) = 1 := by omega
    have hr : utf8_FullRuneInString.N 1 2 x1.toNat x2.toNat = false := by unfold utf8_FullRuneInString.N; simp only [Lib.accLo, Lib.accHi, Nat.reduceMod, Nat.reduceDiv, Nat.reduceEqDiff, if_true, if_false, Nat.reduceLeDiff, Nat.reduceLT, decide_true, decide_false]; simp
    rw [hr] at h
    subst h
    clear hT hX
    go_enter Tryd.func73, Tryd.ntmps73
    have hk0 := (utf8_FullRuneInString.hk w 128 191).1
    have hk1 := (utf8_FullRuneInString.hk w 128 191).2
    go_wp2
    refine start_ (n := 16) (S := utf8_FullRuneInString.S w 128 191) (ds := []) (Sw.b 16 0) (by kernel_rfl) rfl rfl ⟨hk0, hk1⟩ (fun hHeld => ?_)
    refine Sw.pv 0 23 (Sw.b 16 1) ?_
    refine Sw.pv 1 24 (Sw.b 16 3) ?_
    refine Sw.pv 2 25 (Sw.b 16 7) ?_
    refine Sw.pu 3 26 (Sw.b 16 15) ?_
    refine Sw.pu 4 27 (Sw.b 16 31) ?_
    refine Sw.pu 5 28 (Sw.b 16 63) ?_
    refine Sw.pu 6 29 (Sw.b 16 127) ?_
    refine Sw.pu 7 30 (Sw.b 16 255) ?_
    refine Sw.pu 8 31 (Sw.b 16 511) ?_
    refine Sw.pu 9 32 (Sw.b 16 1023) ?_
    refine Sw.pu 10 33 (Sw.b 16 2047) ?_
    refine Sw.pu 11 34 (Sw.b 16 4095) ?_
    refine Sw.pu 12 35 (Sw.b 16 8191) ?_
    refine Sw.pu 13 36 (Sw.b 16 16383) ?_
    refine Sw.pu 14 37 (Sw.b 16 32767) ?_
    refine Sw.pv 15 38 (Sw.b 16 65535) ?_
    refine done_ (by kernel_rfl) ?_
    go_wp2
    go_ret
    exact ⟨rfl, ((Below.refl _ _).alloc (Nat.le_refl _) _).drew⟩
  · rw [hX] at hc0 h
    have ha0 := (hT.2 1 (by omega)).1
    have ha1 := (hT.2 1 (by omega)).2
    simp only [Lib.accLo, Lib.accHi, Nat.reduceMul, Nat.reduceAdd, Nat.reduceEqDiff, if_true, if_false] at ha0 ha1
    by_cases hn : 3 ≤ s.size
    · have hr : utf8_FullRuneInString.N s.size 19 x1.toNat x2.toNat = true := by unfold utf8_FullRuneInString.N; simp; omega
      rw [hr] at h
      subst h
      clear hT hX
      have hge : (3 : Int) ≤ (s.size : Int) := by omega
      go_enter Tryd.func73, Tryd.ntmps73
      go_wp2
      go_ret
      exact ⟨rfl, Below.refl _ _⟩
    by_cases hn1 : s.size = 1
    · rw [hn1] at h
      have hsz : (s.size : Int) = 1 := by omega
      have hr : utf8_FullRuneInString.N 1 19 x1.toNat x2.toNat = false := by unfold utf8_FullRuneInString.N; simp only [Lib.accLo, Lib.accHi, Nat.reduceMod, Nat.reduceDiv, Nat.reduceEqDiff, if_true, if_false, Nat.reduceLeDiff, Nat.reduceLT, decide_true, decide_false]; simp
      rw [hr] at h
      subst h
      clear hT hX
      go_enter Tryd.func73, Tryd.ntmps73
      have hk0 := (utf8_FullRuneInString.hk w 160 191).1
      have hk1 := (utf8_FullRuneInString.hk w 160 191).2
      go_wp2
      refine start_ (n := 16) (S := utf8_FullRuneInString.S w 160 191) (ds := []) (Sw.b 16 0) (by kernel_rfl) rfl rfl ⟨hk0, hk1⟩ (fun hHeld => ?_)
      refine Sw.pv 0 23 (Sw.b 16 1) ?_
      refine Sw.pv 1 24 (Sw.b 16 3) ?_
      refine Sw.pv 2 25 (Sw.b 16 7) ?_
      refine Sw.pu 3 26 (Sw.b 16 15) ?_
      refine Sw.pu 4 27 (Sw.b 16 31) ?_
      refine Sw.pu 5 28 (Sw.b 16 63) ?_
      refine Sw.pu 6 29 (Sw.b 16 127) ?_
      refine Sw.pu 7 30 (Sw.b 16 255) ?_
      refine Sw.pu 8 31 (Sw.b 16 511) ?_
      refine Sw.pu 9 32 (Sw.b 16 1023) ?_
      refine Sw.pu 10 33 (Sw.b 16 2047) ?_
      refine Sw.pu 11 34 (Sw.b 16 4095) ?_
      refine Sw.pu 12 35 (Sw.b 16 8191) ?_
      refine Sw.pu 13 36 (Sw.b 16 16383) ?_
      refine Sw.pu 14 37 (Sw.b 16 32767) ?_
      refine Sw.pv 15 38 (Sw.b 16 65535) ?_
      refine done_ (by kernel_rfl) ?_
      go_wp2
      go_ret
      exact ⟨rfl, ((Below.refl _ _).alloc (Nat.le_refl _) _).drew⟩
    have hn2 : s.size = 2 := by omega
    rw [hn2] at h
    have hsz : (s.size : Int) = 2 := by omega
    have hs1 : s[1]'(by omega) = x1 := by rw [← hx1]; exact (Utf8W.get!_of_lt s 1 (by omega)).symm
    by_cases hb1 : x1.toNat < 160
    · skip
      have hr : utf8_FullRuneInString.N 2 19 x1.toNat x2.toNat = true := by unfold utf8_FullRuneInString.N; simp only [Lib.accLo, Lib.accHi, Nat.reduceMod, Nat.reduceDiv, Nat.reduceEqDiff, if_true, if_false, Nat.reduceLeDiff, Nat.reduceLT, decide_true, decide_false]; simp; omega
      rw [hr] at h
      subst h
      clear hT hX
      have hb1z : (x1.toNat : Int) < 160 := by omega
      have hb1d : decide ((x1.toNat : Int) < 160) = true := decide_eq_true hb1z
      go_enter Tryd.func73, Tryd.ntmps73
      have hk0 := (utf8_FullRuneInString.hk w 160 191).1
      have hk1 := (utf8_FullRuneInString.hk w 160 191).2
      go_wp2
      refine start_ (n := 16) (S := utf8_FullRuneInString.S w 160 191) (ds := []) (Sw.b 16 0) (by kernel_rfl) rfl rfl ⟨hk0, hk1⟩ (fun hHeld => ?_)
      refine Sw.pv 0 23 (Sw.b 16 1) ?_
      refine Sw.pv 1 24 (Sw.b 16 3) ?_
      refine Sw.pv 2 25 (Sw.b 16 7) ?_
      refine Sw.pv 3 26 (Sw.b 16 15) ?_
      refine Sw.pv 5 28 (Sw.b 16 47) ?_
      refine Zw73.tv hHeld 4 27 (Sw.b 16 63) ?_
      refine Zw73.tv hHeld 6 29 (Sw.b 16 127) ?_
      refine Sw.pv 7 30 (Sw.b 16 255) ?_
      refine Sw.pv 8 31 (Sw.b 16 511) ?_
      refine Sw.pu 9 32 (Sw.b 16 1023) ?_
      refine Sw.pu 10 33 (Sw.b 16 2047) ?_
      refine Sw.pu 11 34 (Sw.b 16 4095) ?_
      refine Sw.pu 12 35 (Sw.b 16 8191) ?_
      refine Sw.pu 13 36 (Sw.b 16 16383) ?_
      refine Sw.pv 14 37 (Sw.b 16 32767) ?_
      refine Sw.pv 15 38 (Sw.b 16 65535) ?_
      refine done_ (by kernel_rfl) ?_
      go_wp2
      go_ret
      exact ⟨rfl, ((Below.refl _ _).alloc (Nat.le_refl _) _).drew⟩
    have hb1z : ¬ ((x1.toNat : Int) < 160) := by omega
    have hb1d : decide ((x1.toNat : Int) < 160) = false := decide_eq_false hb1z
    by_cases hb2 : 191 < x1.toNat
    · skip
      have hr : utf8_FullRuneInString.N 2 19 x1.toNat x2.toNat = true := by unfold utf8_FullRuneInString.N; simp only [Lib.accLo, Lib.accHi, Nat.reduceMod, Nat.reduceDiv, Nat.reduceEqDiff, if_true, if_false, Nat.reduceLeDiff, Nat.reduceLT, decide_true, decide_false]; simp; omega
      rw [hr] at h
      subst h
      clear hT hX
      have hb2z : (191 : Int) < (x1.toNat : Int) := by omega
      have hb2d : decide ((191 : Int) < (x1.toNat : Int)) = true := decide_eq_true hb2z
      go_enter Tryd.func73, Tryd.ntmps73
      have hk0 := (utf8_FullRuneInString.hk w 160 191).1
      have hk1 := (utf8_FullRuneInString.hk w 160 191).2
      go_wp2
      refine start_ (n := 16) (S := utf8_FullRuneInString.S w 160 191) (ds := []) (Sw.b 16 0) (by kernel_rfl) rfl rfl ⟨hk0, hk1⟩ (fun hHeld => ?_)
      refine Sw.pv 0 23 (Sw.b 16 1) ?_
      refine Sw.pv 1 24 (Sw.b 16 3) ?_
      refine Sw.pv 2 25 (Sw.b 16 7) ?_
      refine Sw.pv 3 26 (Sw.b 16 15) ?_
      refine Sw.pv 5 28 (Sw.b 16 47) ?_
      refine Zw73.tv hHeld 4 27 (Sw.b 16 63) ?_
      refine Zw73.tv hHeld 6 29 (Sw.b 16 127) ?_
      refine Sw.pv 7 30 (Sw.b 16 255) ?_
      refine Sw.pv 8 31 (Sw.b 16 511) ?_
      refine Sw.pv 9 32 (Sw.b 16 1023) ?_
      refine Sw.pv 11 34 (Sw.b 16 3071) ?_
      refine Zw73.tv hHeld 10 33 (Sw.b 16 4095) ?_
      refine Zw73.tv hHeld 12 35 (Sw.b 16 8191) ?_
      refine Sw.pv 13 36 (Sw.b 16 16383) ?_
      refine Sw.pv 14 37 (Sw.b 16 32767) ?_
      refine Sw.pv 15 38 (Sw.b 16 65535) ?_
      refine done_ (by kernel_rfl) ?_
      go_wp2
      go_ret
      exact ⟨rfl, ((Below.refl _ _).alloc (Nat.le_refl _) _).drew⟩
    have hb2z : ¬ ((191 : Int) < (x1.toNat : Int)) := by omega
    have hb2d : decide ((191 : Int) < (x1.toNat : Int)) = false := decide_eq_false hb2z
    have hr : utf8_FullRuneInString.N 2 19 x1.toNat x2.toNat = false := by unfold utf8_FullRuneInString.N; simp only [Lib.accLo, Lib.accHi, Nat.reduceMod, Nat.reduceDiv, Nat.reduceEqDiff, if_true, if_false, Nat.reduceLeDiff, Nat.reduceLT, decide_true, decide_false]; simp; omega
    rw [hr] at h
    subst h
    clear hT hX
    go_enter Tryd.func73, Tryd.ntmps73
    have hk0 := (utf8_FullRuneInString.hk w 160 191).1
    have hk1 := (utf8_FullRuneInString.hk w 160 191).2
    go_wp2
    refine start_ (n := 16) (S := utf8_FullRuneInString.S w 160 191) (ds := []) (Sw.b 16 0) (by kernel_rfl) rfl rfl ⟨hk0, hk1⟩ (fun hHeld => ?_)
    refine Sw.pv 0 23 (Sw.b 16 1) ?_
    refine Sw.pv 1 24 (Sw.b 16 3) ?_
    refine Sw.pv 2 25 (Sw.b 16 7) ?_
    refine Sw.pv 3 26 (Sw.b 16 15) ?_
    refine Sw.pv 5 28 (Sw.b 16 47) ?_
    refine Zw73.tv hHeld 4 27 (Sw.b 16 63) ?_
    refine Zw73.tv hHeld 6 29 (Sw.b 16 127) ?_
    refine Sw.pv 7 30 (Sw.b 16 255) ?_
    refine Sw.pv 8 31 (Sw.b 16 511) ?_
    refine Sw.pv 9 32 (Sw.b 16 1023) ?_
    refine Sw.pv 11 34 (Sw.b 16 3071) ?_
    refine Zw73.tv hHeld 10 33 (Sw.b 16 4095) ?_
    refine Zw73.tv hHeld 12 35 (Sw.b 16 8191) ?_
    refine Sw.pv 13 36 (Sw.b 16 16383) ?_
    refine Sw.pv 14 37 (Sw.b 16 32767) ?_
    refine Sw.pv 15 38 (Sw.b 16 65535) ?_
    refine done_ (by kernel_rfl) ?_
    go_wp2
    go_ret
    exact ⟨rfl, ((Below.refl _ _).alloc (Nat.le_refl _) _).drew⟩
  · rw [hX] at hc0 h
    have ha0 := (hT.2 0 (by omega)).1
    have ha1 := (hT.2 0 (by omega)).2
    simp only [Lib.accLo, Lib.accHi, Nat.reduceMul, Nat.reduceAdd, Nat.reduceEqDiff, if_true, if_false] at ha0 ha1
    by_cases hn : 3 ≤ s.size
    · have hr : utf8_FullRuneInString.N s.size 3 x1.toNat x2.toNat = true := by unfold utf8_FullRuneInString.N; simp; omega
      rw [hr] at h
      subst h
      clear hT hX
      have hge : (3 : Int) ≤ (s.size : Int) := by omega
      go_enter Tryd.func73, Tryd.ntmps73
      go_wp2
      go_ret
      exact ⟨rfl, Below.refl _ _⟩
    by_cases hn1 : s.size = 1
    · rw [hn1] at h
      have hsz : (s.size : Int) = 1 := by omega
      have hr : utf8_FullRuneInString.N 1 3 x1.toNat x2.toNat = false := by unfold utf8_FullRuneInString.N; simp only [Lib.accLo, Lib.accHi, Nat.reduceMod, Nat.reduceDiv, Nat.reduceEqDiff, if_true, if_false, Nat.reduceLeDiff, Nat.reduceLT, decide_true, decide_false]; simp
      rw [hr] at h
      subst h
      clear hT hX
      go_enter Tryd.func73, Tryd.ntmps73
      have hk0 := (utf8_FullRuneInString.hk w 128 191).1
      have hk1 := (utf8_FullRuneInString.hk w 128 191).2
      go_wp2
      refine start_ (n := 16) (S := utf8_FullRuneInString.S w 128 191) (ds := []) (Sw.b 16 0) (by kernel_rfl) rfl rfl ⟨hk0, hk1⟩ (fun hHeld => ?_)
      refine Sw.pv 0 23 (Sw.b 16 1) ?_
      refine Sw.pv 1 24 (Sw.b 16 3) ?_
      refine Sw.pv 2 25 (Sw.b 16 7) ?_
      refine Sw.pu 3 26 (Sw.b 16 15) ?_
      refine Sw.pu 4 27 (Sw.b 16 31) ?_
      refine Sw.pu 5 28 (Sw.b 16 63) ?_
      refine Sw.pu 6 29 (Sw.b 16 127) ?_
      refine Sw.pu 7 30 (Sw.b 16 255) ?_
      refine Sw.pu 8 31 (Sw.b 16 511) ?_
      refine Sw.pu 9 32 (Sw.b 16 1023) ?_
      refine Sw.pu 10 33 (Sw.b 16 2047) ?_
      refine Sw.pu 11 34 (Sw.b 16 4095) ?_
      refine Sw.pu 12 35 (Sw.b 16 8191) ?_
      refine Sw.pu 13 36 (Sw.b 16 16383) ?_
      refine Sw.pu 14 37 (Sw.b 16 32767) ?_
      refine Sw.pv 15 38 (Sw.b 16 65535) ?_
      refine done_ (by kernel_rfl) ?_
      go_wp2
      go_ret
      exact ⟨rfl, ((Below.refl _ _).alloc (Nat.le_refl _) _).drew⟩
    have hn2 : s.size = 2 := by omega
    rw [hn2] at h
    have hsz : (s.size : Int) = 2 := by omega
    have hs1 : s[1]'(by omega) = x1 := by rw [← hx1]; exact (Utf8W.get!_of_lt s 1 (by omega)).symm
    by_cases hb1 : x1.toNat < 128
    · skip
      have hr : utf8_FullRuneInString.N 2 3 x1.toNat x2.toNat = true := by unfold utf8_FullRuneInString.N; simp only [Lib.accLo, Lib.accHi, Nat.reduceMod, Nat.reduceDiv, Nat.reduceEqDiff, if_true, if_false, Nat.reduceLeDiff, Nat.reduceLT, decide_true, decide_false]; simp; omega
      rw [hr] at h
      subst h
      clear hT hX
      have hb1z : (x1.toNat : Int) < 128 := by omega
      have hb1d : decide ((x1.toNat : Int) < 128) = true := decide_eq_true hb1z
      go_enter Tryd.func73, Tryd.ntmps73
      have hk0 := (utf8_FullRuneInString.hk w 128 191).1
      have hk1 := (utf8_FullRuneInString.hk w 128 191).2
      go_wp2
      refine start_ (n := 16) (S := utf8_FullRuneInString.S w 128 191) (ds := []) (Sw.b 16 0) (by kernel_rfl) rfl rfl ⟨hk0, hk1⟩ (fun hHeld => ?_)
      refine Sw.pv 0 23 (Sw.b 16 1) ?_
      refine Sw.pv 1 24 (Sw.b 16 3) ?_
      refine Sw.pv 2 25 (Sw.b 16 7) ?_
      refine Sw.pv 3 26 (Sw.b 16 15) ?_
      refine Sw.pv 5 28 (Sw.b 16 47) ?_
      refine Zw73.tv hHeld 4 27 (Sw.b 16 63) ?_
      refine Zw73.tv hHeld 6 29 (Sw.b 16 127) ?_
      refine Sw.pv 7 30 (Sw.b 16 255) ?_
      refine Sw.pv 8 31 (Sw.b 16 511) ?_
      refine Sw.pu 9 32 (Sw.b 16 1023) ?_
      refine Sw.pu 10 33 (Sw.b 16 2047) ?_
      refine Sw.pu 11 34 (Sw.b 16 4095) ?_
      refine Sw.pu 12 35 (Sw.b 16 8191) ?_
      refine Sw.pu 13 36 (Sw.b 16 16383) ?_
      refine Sw.pv 14 37 (Sw.b 16 32767) ?_
      refine Sw.pv 15 38 (Sw.b 16 65535) ?_
      refine done_ (by kernel_rfl) ?_
      go_wp2
      go_ret
      exact ⟨rfl, ((Below.refl _ _).alloc (Nat.le_refl _) _).drew⟩
    have hb1z : ¬ ((x1.toNat : Int) < 128) := by omega
    have hb1d : decide ((x1.toNat : Int) < 128) = false := decide_eq_false hb1z
    by_cases hb2 : 191 < x1.toNat
    · skip
      have hr : utf8_FullRuneInString.N 2 3 x1.toNat x2.toNat = true := by unfold utf8_FullRuneInString.N; simp only [Lib.accLo, Lib.accHi, Nat.reduceMod, Nat.reduceDiv, Nat.reduceEqDiff, if_true, if_false, Nat.reduceLeDiff, Nat.reduceLT, decide_true, decide_false]; simp; omega
      rw [hr] at h
      subst h
      clear hT hX
      have hb2z : (191 : Int) < (x1.toNat : Int) := by omega
      have hb2d : decide ((191 : Int) < (x1.toNat : Int)) = true := decide_eq_true hb2z
      go_enter Tryd.func73, Tryd.ntmps73
      have hk0 := (utf8_FullRuneInString.hk w 128 191).1
      have hk1 := (utf8_FullRuneInString.hk w 128 191).2
      go_wp2
      refine start_ (n := 16) (S := utf8_FullRuneInString.S w 128 191) (ds := []) (Sw.b 16 0) (by kernel_rfl) rfl rfl ⟨hk0, hk1⟩ (fun hHeld => ?_)
      refine Sw.pv 0 23 (Sw.b 16 1) ?_
      refine Sw.pv 1 24 (Sw.b 16 3) ?_
      refine Sw.pv 2 25 (Sw.b 16 7) ?_
      refine Sw.pv 3 26 (Sw.b 16 15) ?_
      refine Sw.pv 5 28 (Sw.b 16 47) ?_
      refine Zw73.tv hHeld 4 27 (Sw.b 16 63) ?_
      refine Zw73.tv hHeld 6 29 (Sw.b 16 127) ?_
      refine Sw.pv 7 30 (Sw.b 16 255) ?_
      refine Sw.pv 8 31 (Sw.b 16 511) ?_
      refine Sw.pv 9 32 (Sw.b 16 1023) ?_
      refine Sw.pv 11 34 (Sw.b 16 3071) ?_
      refine Zw73.tv hHeld 10 33 (Sw.b 16 4095) ?_
      refine Zw73.tv hHeld 12 35 (Sw.b 16 8191) ?_
      refine Sw.pv 13 36 (Sw.b 16 16383) ?_
      refine Sw.pv 14 37 (Sw.b 16 32767) ?_
      refine Sw.pv 15 38 (Sw.b 16 65535) ?_
      refine done_ (by kernel_rfl) ?_
      go_wp2
      go_ret
      exact ⟨rfl, ((Below.refl _ _).alloc (Nat.le_refl _) _).drew⟩
    have hb2z : ¬ ((191 : Int) < (x1.toNat : Int)) := by omega
    have hb2d : decide ((191 : Int) < (x1.toNat : Int)) = false := decide_eq_false hb2z
    have hr : utf8_FullRuneInString.N 2 3 x1.toNat x2.toNat = false := by unfold utf8_FullRuneInString.N; simp only [Lib.accLo, Lib.accHi, Nat.reduceMod, Nat.reduceDiv, Nat.reduceEqDiff, if_true, if_false, Nat.reduceLeDiff, Nat.reduceLT, decide_true, decide_false]; simp; omega
    rw [hr] at h
    subst h
    clear hT hX
    go_enter Tryd.func73, Tryd.ntmps73
    have hk0 := (utf8_FullRuneInString.hk w 128 191).1
    have hk1 := (utf8_FullRuneInString.hk w 128 191).2
    go_wp2
    refine start_ (n := 16) (S := utf8_FullRuneInString.S w 128 191) (ds := []) (Sw.b 16 0) (by kernel_rfl) rfl rfl ⟨hk0, hk1⟩ (fun hHeld => ?_)
    refine Sw.pv 0 23 (Sw.b 16 1) ?_
    refine Sw.pv 1 24 (Sw.b 16 3) ?_
    refine Sw.pv 2 25 (Sw.b 16 7) ?_
    refine Sw.pv 3 26 (Sw.b 16 15) ?_
    refine Sw.pv 5 28 (Sw.b 16 47) ?_
    refine Zw73.tv hHeld 4 27 (Sw.b 16 63) ?_
    refine Zw73.tv hHeld 6 29 (Sw.b 16 127) ?_
    refine Sw.pv 7 30 (Sw.b 16 255) ?_
    refine Sw.pv 8 31 (Sw.b 16 511) ?_
    refine Sw.pv 9 32 (Sw.b 16 1023) ?_
    refine Sw.pv 11 34 (Sw.b 16 3071) ?_
    refine Zw73.tv hHeld 10 33 (Sw.b 16 4095) ?_
    refine Zw73.tv hHeld 12 35 (Sw.b 16 8191) ?_
    refine Sw.pv 13 36 (Sw.b 16 16383) ?_
    refine Sw.pv 14 37 (Sw.b 16 32767) ?_
    refine Sw.pv 15 38 (Sw.b 16 65535) ?_
    refine done_ (by kernel_rfl) ?_
    go_wp2
    go_ret
    exact ⟨rfl, ((Below.refl _ _).alloc (Nat.le_refl _) _).drew⟩
  · rw [hX] at hc0 h
    have ha0 := (hT.2 2 (by omega)).1
    have ha1 := (hT.2 2 (by omega)).2
    simp only [Lib.accLo, Lib.accHi, Nat.reduceMul, Nat.reduceAdd, Nat.reduceEqDiff, if_true, if_false] at ha0 ha1
    by_cases hn : 3 ≤ s.size
    · have hr : utf8_FullRuneInString.N s.size 35 x1.toNat x2.toNat = true := by unfold utf8_FullRuneInString.N; simp; omega
      rw [hr] at h
      subst h
      clear hT hX
      have hge : (3 : Int) ≤ (s.size : Int) := by omega
      go_enter Tryd.func73, Tryd.ntmps73
      go_wp2
      go_ret
      exact ⟨rfl, Below.refl _ _⟩
    by_cases hn1 : s.size = 1
    · rw [hn1] at h
      have hsz : (s.size : Int) = 1 := by omega
      have hr : utf8_FullRuneInString.N 1 35 x1.toNat x2.toNat = false := by unfold utf8_FullRuneInString.N; simp only [Lib.accLo, Lib.accHi, Nat.reduceMod, Nat.reduceDiv, Nat.reduceEqDiff, if_true, if_false, Nat.reduceLeDiff, Nat.reduceLT, decide_true, decide_false]; simp
      rw [hr] at h
      subst h
      clear hT hX
      go_enter Tryd.func73, Tryd.ntmps73
      have hk0 := (utf8_FullRuneInString.hk w 128 159).1
      have hk1 := (utf8_FullRuneInString.hk w 128 159).2
      go_wp2
      refine start_ (n := 16) (S := utf8_FullRuneInString.S w 128 159) (ds := []) (Sw.b 16 0) (by kernel_rfl) rfl rfl ⟨hk0, hk1⟩ (fun hHeld => ?_)
      refine Sw.pv 0 23 (Sw.b 16 1) ?_
      refine Sw.pv 1 24 (Sw.b 16 3) ?_
      refine Sw.pv 2 25 (Sw.b 16 7) ?_
      refine Sw.pu 3 26 (Sw.b 16 15) ?_
      refine Sw.pu 4 27 (Sw.b 16 31) ?_
      refine Sw.pu 5 28 (Sw.b 16 63) ?_
      refine Sw.pu 6 29 (Sw.b 16 127) ?_
      refine Sw.pu 7 30 (Sw.b 16 255) ?_
      refine Sw.pu 8 31 (Sw.b 16 511) ?_
      refine Sw.pu 9 32 (Sw.b 16 1023) ?_
      refine Sw.pu 10 33 (Sw.b 16 2047) ?_
      refine Sw.pu 11 34 (Sw.b 16 4095) ?_
      refine Sw.pu 12 35 (Sw.b 16 8191) ?_
      refine Sw.pu 13 36 (Sw.b 16 16383) ?_
      refine Sw.pu 14 37 (Sw.b 16 32767) ?_
      refine Sw.pv 15 38 (Sw.b 16 65535) ?_
      refine done_ (by kernel_rfl) ?_
      go_wp2
      go_ret
      exact ⟨rfl, ((Below.refl _ _).alloc (Nat.le_refl _) _).drew⟩
    have hn2 : s.size = 2 := by omega
    rw [hn2] at h
    have hsz : (s.size : Int) = 2 := by omega
    have hs1 : s[1]'(by omega) = x1 := by rw [← hx1]; exact (Utf8W.get!_of_lt s 1 (by omega)).symm
    by_cases hb1 : x1.toNat < 128
    · skip
      have hr : utf8_FullRuneInString.N 2 35 x1.toNat x2.toNat = true := by unfold utf8_FullRuneInString.N; simp only [Lib.accLo, Lib.accHi, Nat.reduceMod, Nat.reduceDiv, Nat.reduceEqDiff, if_true, if_false, Nat.reduceLeDiff, Nat.reduceLT, decide_true, decide_false]; simp; omega
      rw [hr] at h
      subst h
      clear hT hX
      have hb1z : (x1.toNat : Int) < 128 := by omega
      have hb1d : decide ((x1.toNat : Int) < 128) = true := decide_eq_true hb1z
      go_enter Tryd.func73, Tryd.ntmps73
      have hk0 := (utf8_FullRuneInString.hk w 128 159).1
      have hk1 := (utf8_FullRuneInString.hk w 128 159).2
      go_wp2
      refine start_ (n := 16) (S := utf8_FullRuneInString.S w 128 159) (ds := []) (Sw.b 16 0) (by kernel_rfl) rfl rfl ⟨hk0, hk1⟩ (fun hHeld => ?_)
      refine Sw.pv 0 23 (Sw.b 16 1) ?_
      refine Sw.pv 1 24 (Sw.b 16 3) ?_
      refine Sw.pv 2 25 (Sw.b 16 7) ?_
      refine Sw.pv 3 26 (Sw.b 16 15) ?_
      refine Sw.pv 5 28 (Sw.b 16 47) ?_
      refine Zw73.tv hHeld 4 27 (Sw.b 16 63) ?_
      refine Zw73.tv hHeld 6 29 (Sw.b 16 127) ?_
      refine Sw.pv 7 30 (Sw.b 16 255) ?_
      refine Sw.pv 8 31 (Sw.b 16 511) ?_
      refine Sw.pu 9 32 (Sw.b 16 1023) ?_
      refine Sw.pu 10 33 (Sw.b 16 2047) ?_
      refine Sw.pu 11 34 (Sw.b 16 4095) ?_
      refine Sw.pu 12 35 (Sw.b 16 8191) ?_
      refine Sw.pu 13 36 (Sw.b 16 16383) ?_
      refine Sw.pv 14 37 (Sw.b 16 32767) ?_
      refine Sw.pv 15 38 (Sw.b 16 65535) ?_
      refine done_ (by kernel_rfl) ?_
      go_wp2
      go_ret
      exact ⟨rfl, ((Below.refl _ _).alloc (Nat.le_refl _) _).drew⟩
    have hb1z : ¬ ((x1.toNat : Int) < 128) := by omega
    have hb1d : decide ((x1.toNat : Int) < 128) = false := decide_eq_false hb1z
    by_cases hb2 : 159 < x1.toNat
    · skip
      have hr : utf8_FullRuneInString.N 2 35 x1.toNat x2.toNat = true := by unfold utf8_FullRuneInString.N; simp only [Lib.accLo, Lib.accHi, Nat.reduceMod, Nat.reduceDiv, Nat.reduceEqDiff, if_true, if_false, Nat.reduceLeDiff, Nat.reduceLT, decide_true, decide_false]; simp; omega
      rw [hr] at h
      subst h
      clear hT hX
      have hb2z : (159 : Int) < (x1.toNat : Int) := by omega
      have hb2d : decide ((159 : Int) < (x1.toNat : Int)) = true := decide_eq_true hb2z
      go_enter Tryd.func73, Tryd.ntmps73
      have hk0 := (utf8_FullRuneInString.hk w 128 159).1
      have hk1 := (utf8_FullRuneInString.hk w 128 159).2
      go_wp2
      refine start_ (n := 16) (S := utf8_FullRuneInString.S w 128 159) (ds := []) (Sw.b 16 0) (by kernel_rfl) rfl rfl ⟨hk0, hk1⟩ (fun hHeld => ?_)
      refine Sw.pv 0 23 (Sw.b 16 1) ?_
      refine Sw.pv 1 24 (Sw.b 16 3) ?_
      refine Sw.pv 2 25 (Sw.b 16 7) ?_
      refine Sw.pv 3 26 (Sw.b 16 15) ?_
      refine Sw.pv 5 28 (Sw.b 16 47) ?_
      refine Zw73.tv hHeld 4 27 (Sw.b 16 63) ?_
      refine Zw73.tv hHeld 6 29 (Sw.b 16 127) ?_
      refine Sw.pv 7 30 (Sw.b 16 255) ?_
      refine Sw.pv 8 31 (Sw.b 16 511) ?_
      refine Sw.pv 9 32 (Sw.b 16 1023) ?_
      refine Sw.pv 11 34 (Sw.b 16 3071) ?_
      refine Zw73.tv hHeld 10 33 (Sw.b 16 4095) ?_
      refine Zw73.tv hHeld 12 35 (Sw.b 16 8191) ?_
      refine Sw.pv 13 36 (Sw.b 16 16383) ?_
      refine Sw.pv 14 37 (Sw.b 16 32767) ?_
      refine Sw.pv 15 38 (Sw.b 16 65535) ?_
      refine done_ (by kernel_rfl) ?_
      go_wp2
      go_ret
      exact ⟨rfl, ((Below.refl _ _).alloc (Nat.le_refl _) _).drew⟩
    have hb2z : ¬ ((159 : Int) < (x1.toNat : Int)) := by omega
    have hb2d : decide ((159 : Int) < (x1.toNat : Int)) = false := decide_eq_false hb2z
    have hr : utf8_FullRuneInString.N 2 35 x1.toNat x2.toNat = false := by unfold utf8_FullRuneInString.N; simp only [Lib.accLo, Lib.accHi, Nat.reduceMod, Nat.reduceDiv, Nat.reduceEqDiff, if_true, if_false, Nat.reduceLeDiff, Nat.reduceLT, decide_true, decide_false]; simp; omega
    rw [hr] at h
    subst h
    clear hT hX
    go_enter Tryd.func73, Tryd.ntmps73
    have hk0 := (utf8_FullRuneInString.hk w 128 159).1
    have hk1 := (utf8_FullRuneInString.hk w 128 159).2
    go_wp2
    refine start_ (n := 16) (S := utf8_FullRuneInString.S w 128 159) (ds := []) (Sw.b 16 0) (by kernel_rfl) rfl rfl ⟨hk0, hk1⟩ (fun hHeld => ?_)
    refine Sw.pv 0 23 (Sw.b 16 1) ?_
    refine Sw.pv 1 24 (Sw.b 16 3) ?_
    refine Sw.pv 2 25 (Sw.b 16 7) ?_
    refine Sw.pv 3 26 (Sw.b 16 15) ?_
    refine Sw.pv 5 28 (Sw.b 16 47) ?_
    refine Zw73.tv hHeld 4 27 (Sw.b 16 63) ?_
    refine Zw73.tv hHeld 6 29 (Sw.b 16 127) ?_
    refine Sw.pv 7 30 (Sw.b 16 255) ?_
    refine Sw.pv 8 31 (Sw.b 16 511) ?_
    refine Sw.pv 9 32 (Sw.b 16 1023) ?_
    refine Sw.pv 11 34 (Sw.b 16 3071) ?_
    refine Zw73.tv hHeld 10 33 (Sw.b 16 4095) ?_
    refine Zw73.tv hHeld 12 35 (Sw.b 16 8191) ?_
    refine Sw.pv 13 36 (Sw.b 16 16383) ?_
    refine Sw.pv 14 37 (Sw.b 16 32767) ?_
    refine Sw.pv 15 38 (Sw.b 16 65535) ?_
    refine done_ (by kernel_rfl) ?_
    go_wp2
    go_ret
    exact ⟨rfl, ((Below.refl _ _).alloc (Nat.le_refl _) _).drew⟩
  · rw [hX] at hc0 h
    have ha0 := (hT.2 3 (by omega)).1
    have ha1 := (hT.2 3 (by omega)).2
    simp only [Lib.accLo, Lib.accHi, Nat.reduceMul, Nat.reduceAdd, Nat.reduceEqDiff, if_true, if_false] at ha0 ha1
    by_cases hn : 4 ≤ s.size
    · have hr : utf8_FullRuneInString.N s.size 52 x1.toNat x2.toNat = true := by unfold utf8_FullRuneInString.N; simp; omega
      rw [hr] at h
      subst h
      clear hT hX
      have hge : (4 : Int) ≤ (s.size : Int) := by omega
      go_enter Tryd.func73, Tryd.ntmps73
      go_wp2
      go_ret
      exact ⟨rfl, Below.refl _ _⟩
    by_cases hn1 : s.size = 1
    · rw [hn1] at h
      have hsz : (s.size : Int) = 1 := by omega
      have hr : utf8_FullRuneInString.N 1 52 x1.toNat x2.toNat = false := by unfold utf8_FullRuneInString.N; simp only [Lib.accLo, Lib.accHi, Nat.reduceMod, Nat.reduceDiv, Nat.reduceEqDiff, if_true, if_false, Nat.reduceLeDiff, Nat.reduceLT, decide_true, decide_false]; simp
      rw [hr] at h
      subst h
      clear hT hX
      go_enter Tryd.func73, Tryd.ntmps73
      have hk0 := (utf8_FullRuneInString.hk w 144 191).1
      have hk1 := (utf8_FullRuneInString.hk w 144 191).2
      go_wp2
      refine start_ (n := 16) (S := utf8_FullRuneInString.S w 144 191) (ds := []) (Sw.b 16 0) (by kernel_rfl) rfl rfl ⟨hk0, hk1⟩ (fun hHeld => ?_)
      refine Sw.pv 0 23 (Sw.b 16 1) ?_
      refine Sw.pv 1 24 (Sw.b 16 3) ?_
      refine Sw.pv 2 25 (Sw.b 16 7) ?_
      refine Sw.pu 3 26 (Sw.b 16 15) ?_
      refine Sw.pu 4 27 (Sw.b 16 31) ?_
      refine Sw.pu 5 28 (Sw.b 16 63) ?_
      refine Sw.pu 6 29 (Sw.b 16 127) ?_
      refine Sw.pu 7 30 (Sw.b 16 255) ?_
      refine Sw.pu 8 31 (Sw.b 16 511) ?_
      refine Sw.pu 9 32 (Sw.b 16 1023) ?_
      refine Sw.pu 10 33 (Sw.b 16 2047) ?_
      refine Sw.pu 11 34 (Sw.b 16 4095) ?_
      refine Sw.pu 12 35 (Sw.b 16 8191) ?_
      refine Sw.pu 13 36 (Sw.b 16 16383) ?_
      refine Sw.pu 14 37 (Sw.b 16 32767) ?_
      refine Sw.pv 15 38 (Sw.b 16 65535) ?_
      refine done_ (by kernel_rfl) ?_
      go_wp2
      go_ret
      exact ⟨rfl, ((Below.refl _ _).alloc (Nat.le_refl _) _).drew⟩
    by_cases hn2 : s.size = 2
    · rw [hn2] at h
      have hsz : (s.size : Int) = 2 := by omega
      have hs1 : s[1]'(by omega) = x1 := by rw [← hx1]; exact (Utf8W.get!_of_lt s 1 (by omega)).symm
      by_cases hb1 : x1.toNat < 144
      · skip
        have hr : utf8_FullRuneInString.N 2 52 x1.toNat x2.toNat = true := by unfold utf8_FullRuneInString.N; simp only [Lib.accLo, Lib.accHi, Nat.reduceMod, Nat.reduceDiv, Nat.reduceEqDiff, if_true, if_false, Nat.reduceLeDiff, Nat.reduceLT, decide_true, decide_false]; simp; omega
        rw [hr] at h
        subst h
        clear hT hX
        have hb1z : (x1.toNat : Int) < 144 := by omega
        have hb1d : decide ((x1.toNat : Int) < 144) = true := decide_eq_true hb1z
        go_enter Tryd.func73, Tryd.ntmps73
        have hk0 := (utf8_FullRuneInString.hk w 144 191).1
        have hk1 := (utf8_FullRuneInString.hk w 144 191).2
        go_wp2
        refine start_ (n := 16) (S := utf8_FullRuneInString.S w 144 191) (ds := []) (Sw.b 16 0) (by kernel_rfl) rfl rfl ⟨hk0, hk1⟩ (fun hHeld => ?_)
        refine Sw.pv 0 23 (Sw.b 16 1) ?_
        refine Sw.pv 1 24 (Sw.b 16 3) ?_
        refine Sw.pv 2 25 (Sw.b 16 7) ?_
        refine Sw.pv 3 26 (Sw.b 16 15) ?_
        refine Sw.pv 5 28 (Sw.b 16 47) ?_
        refine Zw73.tv hHeld 4 27 (Sw.b 16 63) ?_
        refine Zw73.tv hHeld 6 29 (Sw.b 16 127) ?_
        refine Sw.pv 7 30 (Sw.b 16 255) ?_
        refine Sw.pv 8 31 (Sw.b 16 511) ?_
        refine Sw.pu 9 32 (Sw.b 16 1023) ?_
        refine Sw.pu 10 33 (Sw.b 16 2047) ?_
        refine Sw.pu 11 34 (Sw.b 16 4095) ?_
        refine Sw.pu 12 35 (Sw.b 16 8191) ?_
        refine Sw.pu 13 36 (Sw.b 16 16383) ?_
        refine Sw.pv 14 37 (Sw.b 16 32767) ?_
        refine Sw.pv 15 38 (Sw.b 16 65535) ?_
        refine done_ (by kernel_rfl) ?_
        go_wp2
        go_ret
        exact ⟨rfl, ((Below.refl _ _).alloc (Nat.le_refl _) _).drew⟩
      have hb1z : ¬ ((x1.toNat : Int) < 144) := by omega
      have hb1d : decide ((x1.toNat : Int) < 144) = false := decide_eq_false hb1z
      by_cases hb2 : 191 < x1.toNat
      · skip
        have hr : utf8_FullRuneInString.N 2 52 x1.toNat x2.toNat = true := by unfold utf8_FullRuneInString.N; simp only [Lib.accLo, Lib.accHi, Nat.reduceMod, Nat.reduceDiv, Nat.reduceEqDiff, if_true, if_false, Nat.reduceLeDiff, Nat.reduceLT, decide_true, decide_false]; simp; omega
        rw [hr] at h
        subst h
        clear hT hX
        have hb2z : (191 : Int) < (x1.toNat : Int) := by omega
        have hb2d : decide ((191 : Int) < (x1.toNat : Int)) = true := decide_eq_true hb2z
        go_enter Tryd.func73, Tryd.ntmps73
        have hk0 := (utf8_FullRuneInString.hk w 144 191).1
        have hk1 := (utf8_FullRuneInString.hk w 144 191).2
        go_wp2
        refine start_ (n := 16) (S := utf8_FullRuneInString.S w 144 191) (ds := []) (Sw.b 16 0) (by kernel_rfl) rfl rfl ⟨hk0, hk1⟩ (fun hHeld => ?_)
        refine Sw.pv 0 23 (Sw.b 16 1) ?_
        refine Sw.pv 1 24 (Sw.b 16 3) ?_
        refine Sw.pv 2 25 (Sw.b 16 7) ?_
        refine Sw.pv 3 26 (Sw.b 16 15) ?_
        refine Sw.pv 5 28 (Sw.b 16 47) ?_
        refine Zw73.tv hHeld 4 27 (Sw.b 16 63) ?_
        refine Zw73.tv hHeld 6 29 (Sw.b 16 127) ?_
        refine Sw.pv 7 30 (Sw.b 16 255) ?_
        refine Sw.pv 8 31 (Sw.b 16 511) ?_
        refine Sw.pv 9 32 (Sw.b 16 1023) ?_
        refine Sw.pv 11 34 (Sw.b 16 3071) ?_
        refine Zw73.tv hHeld 10 33 (Sw.b 16 4095) ?_
        refine Zw73.tv hHeld 12 35 (Sw.b 16 8191) ?_
        refine Sw.pv 13 36 (Sw.b 16 16383) ?_
        refine Sw.pv 14 37 (Sw.b 16 32767) ?_
        refine Sw.pv 15 38 (Sw.b 16 65535) ?_
        refine done_ (by kernel_rfl) ?_
        go_wp2
        go_ret
        exact ⟨rfl, ((Below.refl _ _).alloc (Nat.le_refl _) _).drew⟩
      have hb2z : ¬ ((191 : Int) < (x1.toNat : Int)) := by omega
      have hb2d : decide ((191 : Int) < (x1.toNat : Int)) = false := decide_eq_false hb2z
      have hr : utf8_FullRuneInString.N 2 52 x1.toNat x2.toNat = false := by unfold utf8_FullRuneInString.N; simp only [Lib.accLo, Lib.accHi, Nat.reduceMod, Nat.reduceDiv, Nat.reduceEqDiff, if_true, if_false, Nat.reduceLeDiff, Nat.reduceLT, decide_true, decide_false]; simp; omega
      rw [hr] at h
      subst h
      clear hT hX
      go_enter Tryd.func73, Tryd.ntmps73
      have hk0 := (utf8_FullRuneInString.hk w 144 191).1
      have hk1 := (utf8_FullRuneInString.hk w 144 191).2
      go_wp2
      refine start_ (n := 16) (S := utf8_FullRuneInString.S w 144 191) (ds := []) (Sw.b 16 0) (by kernel_rfl) rfl rfl ⟨hk0, hk1⟩ (fun hHeld => ?_)
      refine Sw.pv 0 23 (Sw.b 16 1) ?_
      refine Sw.pv 1 24 (Sw.b 16 3) ?_
      refine Sw.pv 2 25 (Sw.b 16 7) ?_
      refine Sw.pv 3 26 (Sw.b 16 15) ?_
      refine Sw.pv 5 28 (Sw.b 16 47) ?_
      refine Zw73.tv hHeld 4 27 (Sw.b 16 63) ?_
      refine Zw73.tv hHeld 6 29 (Sw.b 16 127) ?_
      refine Sw.pv 7 30 (Sw.b 16 255) ?_
      refine Sw.pv 8 31 (Sw.b 16 511) ?_
      refine Sw.pv 9 32 (Sw.b 16 1023) ?_
      refine Sw.pv 11 34 (Sw.b 16 3071) ?_
      refine Zw73.tv hHeld 10 33 (Sw.b 16 4095) ?_
      refine Zw73.tv hHeld 12 35 (Sw.b 16 8191) ?_
      refine Sw.pv 13 36 (Sw.b 16 16383) ?_
      refine Sw.pv 14 37 (Sw.b 16 32767) ?_
      refine Sw.pv 15 38 (Sw.b 16 65535) ?_
      refine done_ (by kernel_rfl) ?_
      go_wp2
      go_ret
      exact ⟨rfl, ((Below.refl _ _).alloc (Nat.le_refl _) _).drew⟩
    have hn3 : s.size = 3 := by omega
    rw [hn3] at h
    have hsz : (s.size : Int) = 3 := by omega
    have hs1 : s[1]'(by omega) = x1 := by rw [← hx1]; exact (Utf8W.get!_of_lt s 1 (by omega)).symm
    have hs2 : s[2]'(by omega) = x2 := by rw [← hx2]; exact (Utf8W.get!_of_lt s 2 (by omega)).symm
    by_cases hb1 : x1.toNat < 144
    · skip
      have hr : utf8_FullRuneInString.N 3 52 x1.toNat x2.toNat = true := by unfold utf8_FullRuneInString.N; simp only [Lib.accLo, Lib.accHi, Nat.reduceMod, Nat.reduceDiv, Nat.reduceEqDiff, if_true, if_false, Nat.reduceLeDiff, Nat.reduceLT, decide_true, decide_false]; simp; omega
      rw [hr] at h
      subst h
      clear hT hX
      have hb1z : (x1.toNat : Int) < 144 := by omega
      have hb1d : decide ((x1.toNat : Int) < 144) = true := decide_eq_true hb1z
      go_enter Tryd.func73, Tryd.ntmps73
      have hk0 := (utf8_FullRuneInString.hk w 144 191).1
      have hk1 := (utf8_FullRuneInString.hk w 144 191).2
      go_wp2
      refine start_ (n := 16) (S := utf8_FullRuneInString.S w 144 191) (ds := []) (Sw.b 16 0) (by kernel_rfl) rfl rfl ⟨hk0, hk1⟩ (fun hHeld => ?_)
      refine Sw.pv 0 23 (Sw.b 16 1) ?_
      refine Sw.pv 1 24 (Sw.b 16 3) ?_
      refine Sw.pv 2 25 (Sw.b 16 7) ?_
      refine Sw.pv 3 26 (Sw.b 16 15) ?_
      refine Sw.pv 5 28 (Sw.b 16 47) ?_
      refine Zw73.tv hHeld 4 27 (Sw.b 16 63) ?_
      refine Zw73.tv hHeld 6 29 (Sw.b 16 127) ?_
      refine Sw.pv 7 30 (Sw.b 16 255) ?_
      refine Sw.pv 8 31 (Sw.b 16 511) ?_
      refine Sw.pu 9 32 (Sw.b 16 1023) ?_
      refine Sw.pu 10 33 (Sw.b 16 2047) ?_
      refine Sw.pu 11 34 (Sw.b 16 4095) ?_
      refine Sw.pu 12 35 (Sw.b 16 8191) ?_
      refine Sw.pu 13 36 (Sw.b 16 16383) ?_
      refine Sw.pv 14 37 (Sw.b 16 32767) ?_
      refine Sw.pv 15 38 (Sw.b 16 65535) ?_
      refine done_ (by kernel_rfl) ?_
      go_wp2
      go_ret
      exact ⟨rfl, ((Below.refl _ _).alloc (Nat.le_refl _) _).drew⟩
    have hb1z : ¬ ((x1.toNat : Int) < 144) := by omega
    have hb1d : decide ((x1.toNat : Int) < 144) = false := decide_eq_false hb1z
    by_cases hb2 : 191 < x1.toNat
    · skip
      have hr : utf8_FullRuneInString.N 3 52 x1.toNat x2.toNat = true := by unfold utf8_FullRuneInString.N; simp only [Lib.accLo, Lib.accHi, Nat.reduceMod, Nat.reduceDiv, Nat.reduceEqDiff, if_true, if_false, Nat.reduceLeDiff, Nat.reduceLT, decide_true, decide_false]; simp; omega
      rw [hr] at h
      subst h
      clear hT hX
      have hb2z : (191 : Int) < (x1.toNat : Int) := by omega
      have hb2d : decide ((191 : Int) < (x1.toNat : Int)) = true := decide_eq_true hb2z
      go_enter Tryd.func73, Tryd.ntmps73
      have hk0 := (utf8_FullRuneInString.hk w 144 191).1
      have hk1 := (utf8_FullRuneInString.hk w 144 191).2
      go_wp2
      refine start_ (n := 16) (S := utf8_FullRuneInString.S w 144 191) (ds := []) (Sw.b 16 0) (by kernel_rfl) rfl rfl ⟨hk0, hk1⟩ (fun hHeld => ?_)
      refine Sw.pv 0 23 (Sw.b 16 1) ?_
      refine Sw.pv 1 24 (Sw.b 16 3) ?_
      refine Sw.pv 2 25 (Sw.b 16 7) ?_
      refine Sw.pv 3 26 (Sw.b 16 15) ?_
      refine Sw.pv 5 28 (Sw.b 16 47) ?_
      refine Zw73.tv hHeld 4 27 (Sw.b 16 63) ?_
      refine Zw73.tv hHeld 6 29 (Sw.b 16 127) ?_
      refine Sw.pv 7 30 (Sw.b 16 255) ?_
      refine Sw.pv 8 31 (Sw.b 16 511) ?_
      refine Sw.pv 9 32 (Sw.b 16 1023) ?_
      refine Sw.pv 11 34 (Sw.b 16 3071) ?_
      refine Zw73.tv hHeld 10 33 (Sw.b 16 4095) ?_
      refine Zw73.tv hHeld 12 35 (Sw.b 16 8191) ?_
      refine Sw.pv 13 36 (Sw.b 16 16383) ?_
      refine Sw.pv 14 37 (Sw.b 16 32767) ?_
      refine Sw.pv 15 38 (Sw.b 16 65535) ?_
      refine done_ (by kernel_rfl) ?_
      go_wp2
      go_ret
      exact ⟨rfl, ((Below.refl _ _).alloc (Nat.le_refl _) _).drew⟩
    have hb2z : ¬ ((191 : Int) < (x1.toNat : Int)) := by omega
    have hb2d : decide ((191 : Int) < (x1.toNat : Int)) = false := decide_eq_false hb2z
    by_cases hb3 : x2.toNat < 128
    · skip
      have hr : utf8_FullRuneInString.N 3 52 x1.toNat x2.toNat = true := by unfold utf8_FullRuneInString.N; simp only [Lib.accLo, Lib.accHi, Nat.reduceMod, Nat.reduceDiv, Nat.reduceEqDiff, if_true, if_false, Nat.reduceLeDiff, Nat.reduceLT, decide_true, decide_false]; simp; omega
      rw [hr] at h
      subst h
      clear hT hX
      have hb3z : (x2.toNat : Int) < 128 := by omega
      go_enter Tryd.func73, Tryd.ntmps73
      have hk0 := (utf8_FullRuneInString.hk w 144 191).1
      have hk1 := (utf8_FullRuneInString.hk w 144 191).2
      go_wp2
      refine start_ (n := 16) (S := utf8_FullRuneInString.S w 144 191) (ds := []) (Sw.b 16 0) (by kernel_rfl) rfl rfl ⟨hk0, hk1⟩ (fun hHeld => ?_)
      refine Sw.pv 0 23 (Sw.b 16 1) ?_
      refine Sw.pv 1 24 (Sw.b 16 3) ?_
      refine Sw.pv 2 25 (Sw.b 16 7) ?_
      refine Sw.pv 3 26 (Sw.b 16 15) ?_
      refine Sw.pv 5 28 (Sw.b 16 47) ?_
      refine Zw73.tv hHeld 4 27 (Sw.b 16 63) ?_
      refine Zw73.tv hHeld 6 29 (Sw.b 16 127) ?_
      refine Sw.pv 7 30 (Sw.b 16 255) ?_
      refine Sw.pv 8 31 (Sw.b 16 511) ?_
      refine Sw.pv 9 32 (Sw.b 16 1023) ?_
      refine Sw.pv 11 34 (Sw.b 16 3071) ?_
      refine Zw73.tv hHeld 10 33 (Sw.b 16 4095) ?_
      refine Zw73.tv hHeld 12 35 (Sw.b 16 8191) ?_
      refine Sw.pv 13 36 (Sw.b 16 16383) ?_
      refine Sw.pv 14 37 (Sw.b 16 32767) ?_
      refine Sw.pv 15 38 (Sw.b 16 65535) ?_
      refine done_ (by kernel_rfl) ?_
      go_wp2
      go_ret
      exact ⟨rfl, ((Below.refl _ _).alloc (Nat.le_refl _) _).drew⟩
    have hb3z : ¬ ((x2.toNat : Int) < 128) := by omega
    by_cases hb4 : 191 < x2.toNat
    · skip
      have hr : utf8_FullRuneInString.N 3 52 x1.toNat x2.toNat = true := by unfold utf8_FullRuneInString.N; simp only [Lib.accLo, Lib.accHi, Nat.reduceMod, Nat.reduceDiv, Nat.reduceEqDiff, if_true, if_false, Nat.reduceLeDiff, Nat.reduceLT, decide_true, decide_false]; simp; omega
      rw [hr] at h
      subst h
      clear hT hX
      have hb4z : (191 : Int) < (x2.toNat : Int) := by omega
      go_enter Tryd.func73, Tryd.ntmps73
      have hk0 := (utf8_FullRuneInString.hk w 144 191).1
      have hk1 := (utf8_FullRuneInString.hk w 144 191).2
      go_wp2
      refine start_ (n := 16) (S := utf8_FullRuneInString.S w 144 191) (ds := []) (Sw.b 16 0) (by kernel_rfl) rfl rfl ⟨hk0, hk1⟩ (fun hHeld => ?_)
      refine Sw.pv 0 23 (Sw.b 16 1) ?_
      refine Sw.pv 1 24 (Sw.b 16 3) ?_
      refine Sw.pv 2 25 (Sw.b 16 7) ?_
      refine Sw.pv 3 26 (Sw.b 16 15) ?_
      refine Sw.pv 5 28 (Sw.b 16 47) ?_
      refine Zw73.tv hHeld 4 27 (Sw.b 16 63) ?_
      refine Zw73.tv hHeld 6 29 (Sw.b 16 127) ?_
      refine Sw.pv 7 30 (Sw.b 16 255) ?_
      refine Sw.pv 8 31 (Sw.b 16 511) ?_
      refine Sw.pv 9 32 (Sw.b 16 1023) ?_
      refine Sw.pv 11 34 (Sw.b 16 3071) ?_
      refine Zw73.tv hHeld 10 33 (Sw.b 16 4095) ?_
      refine Zw73.tv hHeld 12 35 (Sw.b 16 8191) ?_
      refine Sw.pv 13 36 (Sw.b 16 16383) ?_
      refine Sw.pv 14 37 (Sw.b 16 32767) ?_
      refine Sw.pv 15 38 (Sw.b 16 65535) ?_
      refine done_ (by kernel_rfl) ?_
      go_wp2
      go_ret
      exact ⟨rfl, ((Below.refl _ _).alloc (Nat.le_refl _) _).drew⟩
    have hb4z : ¬ ((191 : Int) < (x2.toNat : Int)) := by omega
    have hr : utf8_FullRuneInString.N 3 52 x1.toNat x2.toNat = false := by unfold utf8_FullRuneInString.N; simp only [Lib.accLo, Lib.accHi, Nat.reduceMod, Nat.reduceDiv, Nat.reduceEqDiff, if_true, if_false, Nat.reduceLeDiff, Nat.reduceLT, decide_true, decide_false]; simp; omega
    rw [hr] at h
    subst h
    clear hT hX
    go_enter Tryd.func73, Tryd.ntmps73
    have hk0 := (utf8_FullRuneInString.hk w 144 191).1
    have hk1 := (utf8_FullRuneInString.hk w 144 191).2
    go_wp2
    refine start_ (n := 16) (S := utf8_FullRuneInString.S w 144 191) (ds := []) (Sw.b 16 0) (by kernel_rfl) rfl rfl ⟨hk0, hk1⟩ (fun hHeld => ?_)
    refine Sw.pv 0 23 (Sw.b 16 1) ?_
    refine Sw.pv 1 24 (Sw.b 16 3) ?_
    refine Sw.pv 2 25 (Sw.b 16 7) ?_
    refine Sw.pv 3 26 (Sw.b 16 15) ?_
    refine Sw.pv 5 28 (Sw.b 16 47) ?_
    refine Zw73.tv hHeld 4 27 (Sw.b 16 63) ?_
    refine Zw73.tv hHeld 6 29 (Sw.b 16 127) ?_
    refine Sw.pv 7 30 (Sw.b 16 255) ?_
    refine Sw.pv 8 31 (Sw.b 16 511) ?_
    refine Sw.pv 9 32 (Sw.b 16 1023) ?_
    refine Sw.pv 11 34 (Sw.b 16 3071) ?_
    refine Zw73.tv hHeld 10 33 (Sw.b 16 4095) ?_
    refine Zw73.tv hHeld 12 35 (Sw.b 16 8191) ?_
    refine Sw.pv 13 36 (Sw.b 16 16383) ?_
    refine Sw.pv 14 37 (Sw.b 16 32767) ?_
    refine Sw.pv 15 38 (Sw.b 16 65535) ?_
    refine done_ (by kernel_rfl) ?_
    go_wp2
    go_ret
    exact ⟨rfl, ((Below.refl _ _).alloc (Nat.le_refl _) _).drew⟩
  · rw [hX] at hc0 h
    have ha0 := (hT.2 0 (by omega)).1
    have ha1 := (hT.2 0 (by omega)).2
    simp only [Lib.accLo, Lib.accHi, Nat.reduceMul, Nat.reduceAdd, Nat.reduceEqDiff, if_true, if_false] at ha0 ha1
    by_cases hn : 4 ≤ s.size
    · have hr : utf8_FullRuneInString.N s.size 4 x1.toNat x2.toNat = true := by unfold utf8_FullRuneInString.N; simp; omega
      rw [hr] at h
      subst h
      clear hT hX
      have hge : (4 : Int) ≤ (s.size : Int) := by omega
      go_enter Tryd.func73, Tryd.ntmps73
      go_wp2
      go_ret
      exact ⟨rfl, Below.refl _ _⟩
    by_cases hn1 : s.size = 1
    · rw [hn1] at h
      have hsz : (s.size : Int) = 1 := by omega
      have hr : utf8_FullRuneInString.N 1 4 x1.toNat x2.toNat = false := by unfold utf8_FullRuneInString.N; simp only [Lib.accLo, Lib.accHi, Nat.reduceMod, Nat.reduceDiv, Nat.reduceEqDiff, if_true, if_false, Nat.reduceLeDiff, Nat.reduceLT, decide_true, decide_false]; simp
      rw [hr] at h
      subst h
      clear hT hX
      go_enter Tryd.func73, Tryd.ntmps73
      have hk0 := (utf8_FullRuneInString.hk w 128 191).1
      have hk1 := (utf8_FullRuneInString.hk w 128 191).2
      go_wp2
      refine start_ (n := 16) (S := utf8_FullRuneInString.S w 128 191) (ds := []) (Sw.b 16 0) (by kernel_rfl) rfl rfl ⟨hk0, hk1⟩ (fun hHeld => ?_)
      refine Sw.pv 0 23 (Sw.b 16 1) ?_
      refine Sw.pv 1 24 (Sw.b 16 3) ?_
      refine Sw.pv 2 25 (Sw.b 16 7) ?_
      refine Sw.pu 3 26 (Sw.b 16 15) ?_
      refine Sw.pu 4 27 (Sw.b 16 31) ?_
      refine Sw.pu 5 28 (Sw.b 16 63) ?_
      refine Sw.pu 6 29 (Sw.b 16 127) ?_
      refine Sw.pu 7 30 (Sw.b 16 255) ?_
      refine Sw.pu 8 31 (Sw.b 16 511) ?_
      refine Sw.pu 9 32 (Sw.b 16 1023) ?_
      refine Sw.pu 10 33 (Sw.b 16 2047) ?_
      refine Sw.pu 11 34 (Sw.b 16 4095) ?_
      refine Sw.pu 12 35 (Sw.b 16 8191) ?_
      refine Sw.pu 13 36 (Sw.b 16 16383) ?_
      refine Sw.pu 14 37 (Sw.b 16 32767) ?_
      refine Sw.pv 15 38 (Sw.b 16 65535) ?_
      refine done_ (by kernel_rfl) ?_
      go_wp2
      go_ret
      exact ⟨rfl, ((Below.refl _ _).alloc (Nat.le_refl _) _).drew⟩
    by_cases hn2 : s.size = 2
    · rw [hn2] at h
      have hsz : (s.size : Int) = 2 := by omega
      have hs1 : s[1]'(by omega) = x1 := by rw [← hx1]; exact (Utf8W.get!_of_lt s 1 (by omega)).symm
      by_cases hb1 : x1.toNat < 128
      · skip
        have hr : utf8_FullRuneInString.N 2 4 x1.toNat x2.toNat = true := by unfold utf8_FullRuneInString.N; simp only [Lib.accLo, Lib.accHi, Nat.reduceMod, Nat.reduceDiv, Nat.reduceEqDiff, if_true, if_false, Nat.reduceLeDiff, Nat.reduceLT, decide_true, decide_false]; simp; omega
        rw [hr] at h
        subst h
        clear hT hX
        have hb1z : (x1.toNat : Int) < 128 := by omega
        have hb1d : decide ((x1.toNat : Int) < 128) = true := decide_eq_true hb1z
        go_enter Tryd.func73, Tryd.ntmps73
        have hk0 := (utf8_FullRuneInString.hk w 128 191).1
        have hk1 := (utf8_FullRuneInString.hk w 128 191).2
        go_wp2
        refine start_ (n := 16) (S := utf8_FullRuneInString.S w 128 191) (ds := []) (Sw.b 16 0) (by kernel_rfl) rfl rfl ⟨hk0, hk1⟩ (fun hHeld => ?_)
        refine Sw.pv 0 23 (Sw.b 16 1) ?_
        refine Sw.pv 1 24 (Sw.b 16 3) ?_
        refine Sw.pv 2 25 (Sw.b 16 7) ?_
        refine Sw.pv 3 26 (Sw.b 16 15) ?_
        refine Sw.pv 5 28 (Sw.b 16 47) ?_
        refine Zw73.tv hHeld 4 27 (Sw.b 16 63) ?_
        refine Zw73.tv hHeld 6 29 (Sw.b 16 127) ?_
        refine Sw.pv 7 30 (Sw.b 16 255) ?_
        refine Sw.pv 8 31 (Sw.b 16 511) ?_
        refine Sw.pu 9 32 (Sw.b 16 1023) ?_
        refine Sw.pu 10 33 (Sw.b 16 2047) ?_
        refine Sw.pu 11 34 (Sw.b 16 4095) ?_
        refine Sw.pu 12 35 (Sw.b 16 8191) ?_
        refine Sw.pu 13 36 (Sw.b 16 16383) ?_
        refine Sw.pv 14 37 (Sw.b 16 32767) ?_
        refine Sw.pv 15 38 (Sw.b 16 65535) ?_
        refine done_ (by kernel_rfl) ?_
        go_wp2
        go_ret
        exact ⟨rfl, ((Below.refl _ _).alloc (Nat.le_refl _) _).drew⟩
      have hb1z : ¬ ((x1.toNat : Int) < 128) := by omega
      have hb1d : decide ((x1.toNat : Int) < 128) = false := decide_eq_false hb1z
      by_cases hb2 : 191 < x1.toNat
      · skip
        have hr : utf8_FullRuneInString.N 2 4 x1.toNat x2.toNat = true := by unfold utf8_FullRuneInString.N; simp only [Lib.accLo, Lib.accHi, Nat.reduceMod, Nat.reduceDiv, Nat.reduceEqDiff, if_true, if_false, Nat.reduceLeDiff, Nat.reduceLT, decide_true, decide_false]; simp; omega
        rw [hr] at h
        subst h
        clear hT hX
        have hb2z : (191 : Int) < (x1.toNat : Int) := by omega
        have hb2d : decide ((191 : Int) < (x1.toNat : Int)) = true := decide_eq_true hb2z
        go_enter Tryd.func73, Tryd.ntmps73
        have hk0 := (utf8_FullRuneInString.hk w 128 191).1
        have hk1 := (utf8_FullRuneInString.hk w 128 191).2
        go_wp2
        refine start_ (n := 16) (S := utf8_FullRuneInString.S w 128 191) (ds := []) (Sw.b 16 0) (by kernel_rfl) rfl rfl ⟨hk0, hk1⟩ (fun hHeld => ?_)
        refine Sw.pv 0 23 (Sw.b 16 1) ?_
        refine Sw.pv 1 24 (Sw.b 16 3) ?_
        refine Sw.pv 2 25 (Sw.b 16 7) ?_
        refine Sw.pv 3 26 (Sw.b 16 15) ?_
        refine Sw.pv 5 28 (Sw.b 16 47) ?_
        refine Zw73.tv hHeld 4 27 (Sw.b 16 63) ?_
        refine Zw73.tv hHeld 6 29 (Sw.b 16 127) ?_
        refine Sw.pv 7 30 (Sw.b 16 255) ?_
        refine Sw.pv 8 31 (Sw.b 16 511) ?_
        refine Sw.pv 9 32 (Sw.b 16 1023) ?_
        refine Sw.pv 11 34 (Sw.b 16 3071) ?_
        refine Zw73.tv hHeld 10 33 (Sw.b 16 4095) ?_
        refine Zw73.tv hHeld 12 35 (Sw.b 16 8191) ?_
        refine Sw.pv 13 36 (Sw.b 16 16383) ?_
        refine Sw.pv 14 37 (Sw.b 16 32767) ?_
        refine Sw.pv 15 38 (Sw.b 16 65535) ?_
        refine done_ (by kernel_rfl) ?_
        go_wp2
        go_ret
        exact ⟨rfl, ((Below.refl _ _).alloc (Nat.le_refl _) _).drew⟩
      have hb2z : ¬ ((191 : Int) < (x1.toNat : Int)) := by omega
      have hb2d : decide ((191 : Int) < (x1.toNat : Int)) = false := decide_eq_false hb2z
      have hr : utf8_FullRuneInString.N 2 4 x1.toNat x2.toNat = false := by unfold utf8_FullRuneInString.N; simp only [Lib.accLo, Lib.accHi, Nat.reduceMod, Nat.reduceDiv, Nat.reduceEqDiff, if_true, if_false, Nat.reduceLeDiff, Nat.reduceLT, decide_true, decide_false]; simp; omega
      rw [hr] at h
      subst h
      clear hT hX
      go_enter Tryd.func73, Tryd.ntmps73
      have hk0 := (utf8_FullRuneInString.hk w 128 191).1
      have hk1 := (utf8_FullRuneInString.hk w 128 191).2
      go_wp2
      refine start_ (n := 16) (S := utf8_FullRuneInString.S w 128 191) (ds := []) (Sw.b 16 0) (by kernel_rfl) rfl rfl ⟨hk0, hk1⟩ (fun hHeld => ?_)
      refine Sw.pv 0 23 (Sw.b 16 1) ?_
      refine Sw.pv 1 24 (Sw.b 16 3) ?_
      refine Sw.pv 2 25 (Sw.b 16 7) ?_
      refine Sw.pv 3 26 (Sw.b 16 15) ?_
      refine Sw.pv 5 28 (Sw.b 16 47) ?_
      refine Zw73.tv hHeld 4 27 (Sw.b 16 63) ?_
      refine Zw73.tv hHeld 6 29 (Sw.b 16 127) ?_
      refine Sw.pv 7 30 (Sw.b 16 255) ?_
      refine Sw.pv 8 31 (Sw.b 16 511) ?_
      refine Sw.pv 9 32 (Sw.b 16 1023) ?_
      refine Sw.pv 11 34 (Sw.b 16 3071) ?_
      refine Zw73.tv hHeld 10 33 (Sw.b 16 4095) ?_
      refine Zw73.tv hHeld 12 35 (Sw.b 16 8191) ?_
      refine Sw.pv 13 36 (Sw.b 16 16383) ?_
      refine Sw.pv 14 37 (Sw.b 16 32767) ?_
      refine Sw.pv 15 38 (Sw.b 16 65535) ?_
      refine done_ (by kernel_rfl) ?_
      go_wp2
      go_ret
      exact ⟨rfl, ((Below.refl _ _).alloc (Nat.le_refl _) _).drew⟩
    have hn3 : s.size = 3 := by omega
    rw [hn3] at h
    have hsz : (s.size : Int) = 3 := by omega
    have hs1 : s[1]'(by omega) = x1 := by rw [← hx1]; exact (Utf8W.get!_of_lt s 1 (by omega)).symm
    have hs2 : s[2]'(by omega) = x2 := by rw [← hx2]; exact (Utf8W.get!_of_lt s 2 (by omega)).symm
    by_cases hb1 : x1.toNat < 128
    · skip
      have hr : utf8_FullRuneInString.N 3 4 x1.toNat x2.toNat = true := by unfold utf8_FullRuneInString.N; simp only [Lib.accLo, Lib.accHi, Nat.reduceMod, Nat.reduceDiv, Nat.reduceEqDiff, if_true, if_false, Nat.reduceLeDiff, Nat.reduceLT, decide_true, decide_false]; simp; omega
      rw [hr] at h
      subst h
      clear hT hX
      have hb1z : (x1.toNat : Int) < 128 := by omega
      have hb1d : decide ((x1.toNat : Int) < 128) = true := decide_eq_true hb1z
      go_enter Tryd.func73, Tryd.ntmps73
      have hk0 := (utf8_FullRuneInString.hk w 128 191).1
      have hk1 := (utf8_FullRuneInString.hk w 128 191).2
      go_wp2
      refine start_ (n := 16) (S := utf8_FullRuneInString.S w 128 191) (ds := []) (Sw.b 16 0) (by kernel_rfl) rfl rfl ⟨hk0, hk1⟩ (fun hHeld => ?_)
      refine Sw.pv 0 23 (Sw.b 16 1) ?_
      refine Sw.pv 1 24 (Sw.b 16 3) ?_
      refine Sw.pv 2 25 (Sw.b 16 7) ?_
      refine Sw.pv 3 26 (Sw.b 16 15) ?_
      refine Sw.pv 5 28 (Sw.b 16 47) ?_
      refine Zw73.tv hHeld 4 27 (Sw.b 16 63) ?_
      refine Zw73.tv hHeld 6 29 (Sw.b 16 127) ?_
      refine Sw.pv 7 30 (Sw.b 16 255) ?_
      refine Sw.pv 8 31 (Sw.b 16 511) ?_
      refine Sw.pu 9 32 (Sw.b 16 1023) ?_
      refine Sw.pu 10 33 (Sw.b 16 2047) ?_
      refine Sw.pu 11 34 (Sw.b 16 4095) ?_
      refine Sw.pu 12 35 (Sw.b 16 8191) ?_
      refine Sw.pu 13 36 (Sw.b 16 16383) ?_
      refine Sw.pv 14 37 (Sw.b 16 32767) ?_
      refine Sw.pv 15 38 (Sw.b 16 65535) ?_
      refine done_ (by kernel_rfl) ?_
      go_wp2
      go_ret
      exact ⟨rfl, ((Below.refl _ _).alloc (Nat.le_refl _) _).drew⟩
    have hb1z : ¬ ((x1.toNat : Int) < 128) := by omega
    have hb1d : decide ((x1.toNat : Int) < 128) = false := decide_eq_false hb1z
    by_cases hb2 : 191 < x1.toNat
    · skip
      have hr : utf8_FullRuneInString.N 3 4 x1.toNat x2.toNat = true := by unfold utf8_FullRuneInString.N; simp only [Lib.accLo, Lib.accHi, Nat.reduceMod, Nat.reduceDiv, Nat.reduceEqDiff, if_true, if_false, Nat.reduceLeDiff, Nat.reduceLT, decide_true, decide_false]; simp; omega
      rw [hr] at h
      subst h
      clear hT hX
      have hb2z : (191 : Int) < (x1.toNat : Int) := by omega
      have hb2d : decide ((191 : Int) < (x1.toNat : Int)) = true := decide_eq_true hb2z
      go_enter Tryd.func73, Tryd.ntmps73
      have hk0 := (utf8_FullRuneInString.hk w 128 191).1
      have hk1 := (utf8_FullRuneInString.hk w 128 191).2
      go_wp2
      refine start_ (n := 16) (S := utf8_FullRuneInString.S w 128 191) (ds := []) (Sw.b 16 0) (by kernel_rfl) rfl rfl ⟨hk0, hk1⟩ (fun hHeld => ?_)
      refine Sw.pv 0 23 (Sw.b 16 1) ?_
      refine Sw.pv 1 24 (Sw.b 16 3) ?_
      refine Sw.pv 2 25 (Sw.b 16 7) ?_
      refine Sw.pv 3 26 (Sw.b 16 15) ?_
      refine Sw.pv 5 28 (Sw.b 16 47) ?_
      refine Zw73.tv hHeld 4 27 (Sw.b 16 63) ?_
      refine Zw73.tv hHeld 6 29 (Sw.b 16 127) ?_
      refine Sw.pv 7 30 (Sw.b 16 255) ?_
      refine Sw.pv 8 31 (Sw.b 16 511) ?_
      refine Sw.pv 9 32 (Sw.b 16 1023) ?_
      refine Sw.pv 11 34 (Sw.b 16 3071) ?_
      refine Zw73.tv hHeld 10 33 (Sw.b 16 4095) ?_
      refine Zw73.tv hHeld 12 35 (Sw.b 16 8191) ?_
      refine Sw.pv 13 36 (Sw.b 16 16383) ?_
      refine Sw.pv 14 37 (Sw.b 16 32767) ?_
      refine Sw.pv 15 38 (Sw.b 16 65535) ?_
      refine done_ (by kernel_rfl) ?_
      go_wp2
      go_ret
      exact ⟨rfl, ((Below.refl _ _).alloc (Nat.le_refl _) _).drew⟩
    have hb2z : ¬ ((191 : Int) < (x1.toNat : Int)) := by omega
    have hb2d : decide ((191 : Int) < (x1.toNat : Int)) = false := decide_eq_false hb2z
    by_cases hb3 : x2.toNat < 128
    · skip
      have hr : utf8_FullRuneInString.N 3 4 x1.toNat x2.toNat = true := by unfold utf8_FullRuneInString.N; simp only [Lib.accLo, Lib.accHi, Nat.reduceMod, Nat.reduceDiv, Nat.reduceEqDiff, if_true, if_false, Nat.reduceLeDiff, Nat.reduceLT, decide_true, decide_false]; simp; omega
      rw [hr] at h
      subst h
      clear hT hX
      have hb3z : (x2.toNat : Int) < 128 := by omega
      go_enter Tryd.func73, Tryd.ntmps73
      have hk0 := (utf8_FullRuneInString.hk w 128 191).1
      have hk1 := (utf8_FullRuneInString.hk w 128 191).2
      go_wp2
      refine start_ (n := 16) (S := utf8_FullRuneInString.S w 128 191) (ds := []) (Sw.b 16 0) (by kernel_rfl) rfl rfl ⟨hk0, hk1⟩ (fun hHeld => ?_)
      refine Sw.pv 0 23 (Sw.b 16 1) ?_
      refine Sw.pv 1 24 (Sw.b 16 3) ?_
      refine Sw.pv 2 25 (Sw.b 16 7) ?_
      refine Sw.pv 3 26 (Sw.b 16 15) ?_
      refine Sw.pv 5 28 (Sw.b 16 47) ?_
      refine Zw73.tv hHeld 4 27 (Sw.b 16 63) ?_
      refine Zw73.tv hHeld 6 29 (Sw.b 16 127) ?_
      refine Sw.pv 7 30 (Sw.b 16 255) ?_
      refine Sw.pv 8 31 (Sw.b 16 511) ?_
      refine Sw.pv 9 32 (Sw.b 16 1023) ?_
      refine Sw.pv 11 34 (Sw.b 16 3071) ?_
      refine Zw73.tv hHeld 10 33 (Sw.b 16 4095) ?_
      refine Zw73.tv hHeld 12 35 (Sw.b 16 8191) ?_
      refine Sw.pv 13 36 (Sw.b 16 16383) ?_
      refine Sw.pv 14 37 (Sw.b 16 32767) ?_
      refine Sw.pv 15 38 (Sw.b 16 65535) ?_
      refine done_ (by kernel_rfl) ?_
      go_wp2
      go_ret
      exact ⟨rfl, ((Below.refl _ _).alloc (Nat.le_refl _) _).drew⟩
    have hb3z : ¬ ((x2.toNat : Int) < 128) := by omega
    by_cases hb4 : 191 < x2.toNat
    · skip
      have hr : utf8_FullRuneInString.N 3 4 x1.toNat x2.toNat = true := by unfold utf8_FullRuneInString.N; simp only [Lib.accLo, Lib.accHi, Nat.reduceMod, Nat.reduceDiv, Nat.reduceEqDiff, if_true, if_false, Nat.reduceLeDiff, Nat.reduceLT, decide_true, decide_false]; simp; omega
      rw [hr] at h
      subst h
      clear hT hX
      have hb4z : (191 : Int) < (x2.toNat : Int) := by omega
      go_enter Tryd.func73, Tryd.ntmps73
      have hk0 := (utf8_FullRuneInString.hk w 128 191).1
      have hk1 := (utf8_FullRuneInString.hk w 128 191).2
      go_wp2
      refine start_ (n := 16) (S := utf8_FullRuneInString.S w 128 191) (ds := []) (Sw.b 16 0) (by kernel_rfl) rfl rfl ⟨hk0, hk1⟩ (fun hHeld => ?_)
      refine Sw.pv 0 23 (Sw.b 16 1) ?_
      refine Sw.pv 1 24 (Sw.b 16 3) ?_
      refine Sw.pv 2 25 (Sw.b 16 7) ?_
      refine Sw.pv 3 26 (Sw.b 16 15) ?_
      refine Sw.pv 5 28 (Sw.b 16 47) ?_
      refine Zw73.tv hHeld 4 27 (Sw.b 16 63) ?_
      refine Zw73.tv hHeld 6 29 (Sw.b 16 127) ?_
      refine Sw.pv 7 30 (Sw.b 16 255) ?_
      refine Sw.pv 8 31 (Sw.b 16 511) ?_
      refine Sw.pv 9 32 (Sw.b 16 1023) ?_
      refine Sw.pv 11 34 (Sw.b 16 3071) ?_
      refine Zw73.tv hHeld 10 33 (Sw.b 16 4095) ?_
      refine Zw73.tv hHeld 12 35 (Sw.b 16 8191) ?_
      refine Sw.pv 13 36 (Sw.b 16 16383) ?_
      refine Sw.pv 14 37 (Sw.b 16 32767) ?_
      refine Sw.pv 15 38 (Sw.b 16 65535) ?_
      refine done_ (by kernel_rfl) ?_
      go_wp2
      go_ret
      exact ⟨rfl, ((Below.refl _ _).alloc (Nat.le_refl _) _).drew⟩
    have hb4z : ¬ ((191 : Int) < (x2.toNat : Int)) := by omega
    have hr : utf8_FullRuneInString.N 3 4 x1.toNat x2.toNat = false := by unfold utf8_FullRuneInString.N; simp only [Lib.accLo, Lib.accHi, Nat.reduceMod, Nat.reduceDiv, Nat.reduceEqDiff, if_true, if_false, Nat.reduceLeDiff, Nat.reduceLT, decide_true, decide_false]; simp; omega
    rw [hr] at h
    subst h
    clear hT hX
    go_enter Tryd.func73, Tryd.ntmps73
    have hk0 := (utf8_FullRuneInString.hk w 128 191).1
    have hk1 := (utf8_FullRuneInString.hk w 128 191).2
    go_wp2
    refine start_ (n := 16) (S := utf8_FullRuneInString.S w 128 191) (ds := []) (Sw.b 16 0) (by kernel_rfl) rfl rfl ⟨hk0, hk1⟩ (fun hHeld => ?_)
    refine Sw.pv 0 23 (Sw.b 16 1) ?_
    refine Sw.pv 1 24 (Sw.b 16 3) ?_
    refine Sw.pv 2 25 (Sw.b 16 7) ?_
    refine Sw.pv 3 26 (Sw.b 16 15) ?_
    refine Sw.pv 5 28 (Sw.b 16 47) ?_
    refine Zw73.tv hHeld 4 27 (Sw.b 16 63) ?_
    refine Zw73.tv hHeld 6 29 (Sw.b 16 127) ?_
    refine Sw.pv 7 30 (Sw.b 16 255) ?_
    refine Sw.pv 8 31 (Sw.b 16 511) ?_
    refine Sw.pv 9 32 (Sw.b 16 1023) ?_
    refine Sw.pv 11 34 (Sw.b 16 3071) ?_
    refine Zw73.tv hHeld 10 33 (Sw.b 16 4095) ?_
    refine Zw73.tv hHeld 12 35 (Sw.b 16 8191) ?_
    refine Sw.pv 13 36 (Sw.b 16 16383) ?_
    refine Sw.pv 14 37 (Sw.b 16 32767) ?_
    refine Sw.pv 15 38 (Sw.b 16 65535) ?_
    refine done_ (by kernel_rfl) ?_
    go_wp2
    go_ret
    exact ⟨rfl, ((Below.refl _ _).alloc (Nat.le_refl _) _).drew⟩
  · rw [hX] at hc0 h
    have ha0 := (hT.2 4 (by omega)).1
    have ha1 := (hT.2 4 (by omega)).2
    simp only [Lib.accLo, Lib.accHi, Nat.reduceMul, Nat.reduceAdd, Nat.reduceEqDiff, if_true, if_false] at ha0 ha1
    by_cases hn : 4 ≤ s.size
    · have hr : utf8_FullRuneInString.N s.size 68 x1.toNat x2.toNat = true := by unfold utf8_FullRuneInString.N; simp; omega
      rw [hr] at h
      subst h
      clear hT hX
      have hge : (4 : Int) ≤ (s.size : Int) := by omega
      go_enter Tryd.func73, Tryd.ntmps73
      go_wp2
      go_ret
      exact ⟨rfl, Below.refl _ _⟩
    by_cases hn1 : s.size = 1
    · rw [hn1] at h
      have hsz : (s.size : Int) = 1 := by omega
      have hr : utf8_FullRuneInString.N 1 68 x1.toNat x2.toNat = false := by unfold utf8_FullRuneInString.N; simp only [Lib.accLo, Lib.accHi, Nat.reduceMod, Nat.reduceDiv, Nat.reduceEqDiff, if_true, if_false, Nat.reduceLeDiff, Nat.reduceLT, decide_true, decide_false]; simp
      rw [hr] at h
      subst h
      clear hT hX
      go_enter Tryd.func73, Tryd.ntmps73
      have hk0 := (utf8_FullRuneInString.hk w 128 143).1
      have hk1 := (utf8_FullRuneInString.hk w 128 143).2
      go_wp2
      refine start_ (n := 16) (S := utf8_FullRuneInString.S w 128 143) (ds := []) (Sw.b 16 0) (by kernel_rfl) rfl rfl ⟨hk0, hk1⟩ (fun hHeld => ?_)
      refine Sw.pv 0 23 (Sw.b 16 1) ?_
      refine Sw.pv 1 24 (Sw.b 16 3) ?_
      refine Sw.pv 2 25 (Sw.b 16 7) ?_
      refine Sw.pu 3 26 (Sw.b 16 15) ?_
      refine Sw.pu 4 27 (Sw.b 16 31) ?_
      refine Sw.pu 5 28 (Sw.b 16 63) ?_
      refine Sw.pu 6 29 (Sw.b 16 127) ?_
      refine Sw.pu 7 30 (Sw.b 16 255) ?_
      refine Sw.pu 8 31 (Sw.b 16 511) ?_
      refine Sw.pu 9 32 (Sw.b 16 1023) ?_
      refine Sw.pu 10 33 (Sw.b 16 2047) ?_
      refine Sw.pu 11 34 (Sw.b 16 4095) ?_
      refine Sw.pu 12 35 (Sw.b 16 8191) ?_
      refine Sw.pu 13 36 (Sw.b 16 16383) ?_
      refine Sw.pu 14 37 (Sw.b 16 32767) ?_
      refine Sw.pv 15 38 (Sw.b 16 65535) ?_
      refine done_ (by kernel_rfl) ?_
      go_wp2
      go_ret
      exact ⟨rfl, ((Below.refl _ _).alloc (Nat.le_refl _) _).drew⟩
    by_cases hn2 : s.size = 2
    · rw [hn2] at h
      have hsz : (s.size : Int) = 2 := by omega
      have hs1 : s[1]'(by omega) = x1 := by rw [← hx1]; exact (Utf8W.get!_of_lt s 1 (by omega)).symm
      by_cases hb1 : x1.toNat < 128
      · skip
        have hr : utf8_FullRuneInString.N 2 68 x1.toNat x2.toNat = true := by unfold utf8_FullRuneInString.N; simp only [Lib.accLo, Lib.accHi, Nat.reduceMod, Nat.reduceDiv, Nat.reduceEqDiff, if_true, if_false, Nat.reduceLeDiff, Nat.reduceLT, decide_true, decide_false]; simp; omega
        rw [hr] at h
        subst h
        clear hT hX
        have hb1z : (x1.toNat : Int) < 128 := by omega
        have hb1d : decide ((x1.toNat : Int) < 128) = true := decide_eq_true hb1z
        go_enter Tryd.func73, Tryd.ntmps73
        have hk0 := (utf8_FullRuneInString.hk w 128 143).1
        have hk1 := (utf8_FullRuneInString.hk w 128 143).2
        go_wp2
        refine start_ (n := 16) (S := utf8_FullRuneInString.S w 128 143) (ds := []) (Sw.b 16 0) (by kernel_rfl) rfl rfl ⟨hk0, hk1⟩ (fun hHeld => ?_)
        refine Sw.pv 0 23 (Sw.b 16 1) ?_
        refine Sw.pv 1 24 (Sw.b 16 3) ?_
        refine Sw.pv 2 25 (Sw.b 16 7) ?_
        refine Sw.pv 3 26 (Sw.b 16 15) ?_
        refine Sw.pv 5 28 (Sw.b 16 47) ?_
        refine Zw73.tv hHeld 4 27 (Sw.b 16 63) ?_
        refine Zw73.tv hHeld 6 29 (Sw.b 16 127) ?_
        refine Sw.pv 7 30 (Sw.b 16 255) ?_
        refine Sw.pv 8 31 (Sw.b 16 511) ?_
        refine Sw.pu 9 32 (Sw.b 16 1023) ?_
        refine Sw.pu 10 33 (Sw.b 16 2047) ?_
        refine Sw.pu 11 34 (Sw.b 16 4095) ?_
        refine Sw.pu 12 35 (Sw.b 16 8191) ?_
        refine Sw.pu 13 36 (Sw.b 16 16383) ?_
        refine Sw.pv 14 37 (Sw.b 16 32767) ?_
        refine Sw.pv 15 38 (Sw.b 16 65535) ?_
        refine done_ (by kernel_rfl) ?_
        go_wp2
        go_ret
        exact ⟨rfl, ((Below.refl _ _).alloc (Nat.le_refl _) _).drew⟩
      have hb1z : ¬ ((x1.toNat : Int) < 128) := by omega
      have hb1d : decide ((x1.toNat : Int) < 128) = false := decide_eq_false hb1z
      by_cases hb2 : 143 < x1.toNat
      · skip
        have hr : utf8_FullRuneInString.N 2 68 x1.toNat x2.toNat = true := by unfold utf8_FullRuneInString.N; simp only [Lib.accLo, Lib.accHi, Nat.reduceMod, Nat.reduceDiv, Nat.reduceEqDiff, if_true, if_false, Nat.reduceLeDiff, Nat.reduceLT, decide_true, decide_false]; simp; omega
        rw [hr] at h
        subst h
        clear hT hX
        have hb2z : (143 : Int) < (x1.toNat : Int) := by omega
        have hb2d : decide ((143 : Int) < (x1.toNat : Int)) = true := decide_eq_true hb2z
        go_enter Tryd.func73, Tryd.ntmps73
        have hk0 := (utf8_FullRuneInString.hk w 128 143).1
        have hk1 := (utf8_FullRuneInString.hk w 128 143).2
        go_wp2
        refine start_ (n := 16) (S := utf8_FullRuneInString.S w 128 143) (ds := []) (Sw.b 16 0) (by kernel_rfl) rfl rfl ⟨hk0, hk1⟩ (fun hHeld => ?_)
        refine Sw.pv 0 23 (Sw.b 16 1) ?_
        refine Sw.pv 1 24 (Sw.b 16 3) ?_
        refine Sw.pv 2 25 (Sw.b 16 7) ?_
        refine Sw.pv 3 26 (Sw.b 16 15) ?_
        refine Sw.pv 5 28 (Sw.b 16 47) ?_
        refine Zw73.tv hHeld 4 27 (Sw.b 16 63) ?_
        refine Zw73.tv hHeld 6 29 (Sw.b 16 127) ?_
        refine Sw.pv 7 30 (Sw.b 16 255) ?_
        refine Sw.pv 8 31 (Sw.b 16 511) ?_
        refine Sw.pv 9 32 (Sw.b 16 1023) ?_
        refine Sw.pv 11 34 (Sw.b 16 3071) ?_
        refine Zw73.tv hHeld 10 33 (Sw.b 16 4095) ?_
        refine Zw73.tv hHeld 12 35 (Sw.b 16 8191) ?_
        refine Sw.pv 13 36 (Sw.b 16 16383) ?_
        refine Sw.pv 14 37 (Sw.b 16 32767) ?_
        refine Sw.pv 15 38 (Sw.b 16 65535) ?_
        refine done_ (by kernel_rfl) ?_
        go_wp2
        go_ret
        exact ⟨rfl, ((Below.refl _ _).alloc (Nat.le_refl _) _).drew⟩
      have hb2z : ¬ ((143 : Int) < (x1.toNat : Int)) := by omega
      have hb2d : decide ((143 : Int) < (x1.toNat : Int)) = false := decide_eq_false hb2z
      have hr : utf8_FullRuneInString.N 2 68 x1.toNat x2.toNat = false := by unfold utf8_FullRuneInString.N; simp only [Lib.accLo, Lib.accHi, Nat.reduceMod, Nat.reduceDiv, Nat.reduceEqDiff, if_true, if_false, Nat.reduceLeDiff, Nat.reduceLT, decide_true, decide_false]; simp; omega
      rw [hr] at h
      subst h
      clear hT hX
      go_enter Tryd.func73, Tryd.ntmps73
      have hk0 := (utf8_FullRuneInString.hk w 128 143).1
      have hk1 := (utf8_FullRuneInString.hk w 128 143).2
      go_wp2
      refine start_ (n := 16) (S := utf8_FullRuneInString.S w 128 143) (ds := []) (Sw.b 16 0) (by kernel_rfl) rfl rfl ⟨hk0, hk1⟩ (fun hHeld => ?_)
      refine Sw.pv 0 23 (Sw.b 16 1) ?_
      refine Sw.pv 1 24 (Sw.b 16 3) ?_
      refine Sw.pv 2 25 (Sw.b 16 7) ?_
      refine Sw.pv 3 26 (Sw.b 16 15) ?_
      refine Sw.pv 5 28 (Sw.b 16 47) ?_
      refine Zw73.tv hHeld 4 27 (Sw.b 16 63) ?_
      refine Zw73.tv hHeld 6 29 (Sw.b 16 127) ?_
      refine Sw.pv 7 30 (Sw.b 16 255) ?_
      refine Sw.pv 8 31 (Sw.b 16 511) ?_
      refine Sw.pv 9 32 (Sw.b 16 1023) ?_
      refine Sw.pv 11 34 (Sw.b 16 3071) ?_
      refine Zw73.tv hHeld 10 33 (Sw.b 16 4095) ?_
      refine Zw73.tv hHeld 12 35 (Sw.b 16 8191) ?_
      refine Sw.pv 13 36 (Sw.b 16 16383) ?_
      refine Sw.pv 14 37 (Sw.b 16 32767) ?_
      refine Sw.pv 15 38 (Sw.b 16 65535) ?_
      refine done_ (by kernel_rfl) ?_
      go_wp2
      go_ret
      exact ⟨rfl, ((Below.refl _ _).alloc (Nat.le_refl _) _).drew⟩
    have hn3 : s.size = 3 := by omega
    rw [hn3] at h
    have hsz : (s.size : Int) = 3 := by omega
    have hs1 : s[1]'(by omega) = x1 := by rw [← hx1]; exact (Utf8W.get!_of_lt s 1 (by omega)).symm
    have hs2 : s[2]'(by omega) = x2 := by rw [← hx2]; exact (Utf8W.get!_of_lt s 2 (by omega)).symm
    by_cases hb1 : x1.toNat < 128
    · skip
      have hr : utf8_FullRuneInString.N 3 68 x1.toNat x2.toNat = true := by unfold utf8_FullRuneInString.N; simp only [Lib.accLo, Lib.accHi, Nat.reduceMod, Nat.reduceDiv, Nat.reduceEqDiff, if_true, if_false, Nat.reduceLeDiff, Nat.reduceLT, decide_true, decide_false]; simp; omega
      rw [hr] at h
      subst h
      clear hT hX
      have hb1z : (x1.toNat : Int) < 128 := by omega
      have hb1d : decide ((x1.toNat : Int) < 128) = true := decide_eq_true hb1z
      go_enter Tryd.func73, Tryd.ntmps73
      have hk0 := (utf8_FullRuneInString.hk w 128 143).1
      have hk1 := (utf8_FullRuneInString.hk w 128 143).2
      go_wp2
      refine start_ (n := 16) (S := utf8_FullRuneInString.S w 128 143) (ds := []) (Sw.b 16 0) (by kernel_rfl) rfl rfl ⟨hk0, hk1⟩ (fun hHeld => ?_)
      refine Sw.pv 0 23 (Sw.b 16 1) ?_
      refine Sw.pv 1 24 (Sw.b 16 3) ?_
      refine Sw.pv 2 25 (Sw.b 16 7) ?_
      refine Sw.pv 3 26 (Sw.b 16 15) ?_
      refine Sw.pv 5 28 (Sw.b 16 47) ?_
      refine Zw73.tv hHeld 4 27 (Sw.b 16 63) ?_
      refine Zw73.tv hHeld 6 29 (Sw.b 16 127) ?_
      refine Sw.pv 7 30 (Sw.b 16 255) ?_
      refine Sw.pv 8 31 (Sw.b 16 511) ?_
      refine Sw.pu 9 32 (Sw.b 16 1023) ?_
      refine Sw.pu 10 33 (Sw.b 16 2047) ?_
      refine Sw.pu 11 34 (Sw.b 16 4095) ?_
      refine Sw.pu 12 35 (Sw.b 16 8191) ?_
      refine Sw.pu 13 36 (Sw.b 16 16383) ?_
      refine Sw.pv 14 37 (Sw.b 16 32767) ?_
      refine Sw.pv 15 38 (Sw.b 16 65535) ?_
      refine done_ (by kernel_rfl) ?_
      go_wp2
      go_ret
      exact ⟨rfl, ((Below.refl _ _).alloc (Nat.le_refl _) _).drew⟩
    have hb1z : ¬ ((x1.toNat : Int) < 128) := by omega
    have hb1d : decide ((x1.toNat : Int) < 128) = false := decide_eq_false hb1z
    by_cases hb2 : 143 < x1.toNat
    · skip
      have hr : utf8_FullRuneInString.N 3 68 x1.toNat x2.toNat = true := by unfold utf8_FullRuneInString.N; simp only [Lib.accLo, Lib.accHi, Nat.reduceMod, Nat.reduceDiv, Nat.reduceEqDiff, if_true, if_false, Nat.reduceLeDiff, Nat.reduceLT, decide_true, decide_false]; simp; omega
      rw [hr] at h
      subst h
      clear hT hX
      have hb2z : (143 : Int) < (x1.toNat : Int) := by omega
      have hb2d : decide ((143 : Int) < (x1.toNat : Int)) = true := decide_eq_true hb2z
      go_enter Tryd.func73, Tryd.ntmps73
      have hk0 := (utf8_FullRuneInString.hk w 128 143).1
      have hk1 := (utf8_FullRuneInString.hk w 128 143).2
      go_wp2
      refine start_ (n := 16) (S := utf8_FullRuneInString.S w 128 143) (ds := []) (Sw.b 16 0) (by kernel_rfl) rfl rfl ⟨hk0, hk1⟩ (fun hHeld => ?_)
      refine Sw.pv 0 23 (Sw.b 16 1) ?_
      refine Sw.pv 1 24 (Sw.b 16 3) ?_
      refine Sw.pv 2 25 (Sw.b 16 7) ?_
      refine Sw.pv 3 26 (Sw.b 16 15) ?_
      refine Sw.pv 5 28 (Sw.b 16 47) ?_
      refine Zw73.tv hHeld 4 27 (Sw.b 16 63) ?_
      refine Zw73.tv hHeld 6 29 (Sw.b 16 127) ?_
      refine Sw.pv 7 30 (Sw.b 16 255) ?_
      refine Sw.pv 8 31 (Sw.b 16 511) ?_
      refine Sw.pv 9 32 (Sw.b 16 1023) ?_
      refine Sw.pv 11 34 (Sw.b 16 3071) ?_
      refine Zw73.tv hHeld 10 33 (Sw.b 16 4095) ?_
      refine Zw73.tv hHeld 12 35 (Sw.b 16 8191) ?_
      refine Sw.pv 13 36 (Sw.b 16 16383) ?_
      refine Sw.pv 14 37 (Sw.b 16 32767) ?_
      refine Sw.pv 15 38 (Sw.b 16 65535) ?_
      refine done_ (by kernel_rfl) ?_
      go_wp2
      go_ret
      exact ⟨rfl, ((Below.refl _ _).alloc (Nat.le_refl _) _).drew⟩
    have hb2z : ¬ ((143 : Int) < (x1.toNat : Int)) := by omega
    have hb2d : decide ((143 : Int) < (x1.toNat : Int)) = false := decide_eq_false hb2z
    by_cases hb3 : x2.toNat < 128
    · skip
      have hr : utf8_FullRuneInString.N 3 68 x1.toNat x2.toNat = true := by unfold utf8_FullRuneInString.N; simp only [Lib.accLo, Lib.accHi, Nat.reduceMod, Nat.reduceDiv, Nat.reduceEqDiff, if_true, if_false, Nat.reduceLeDiff, Nat.reduceLT, decide_true, decide_false]; simp; omega
      rw [hr] at h
      subst h
      clear hT hX
      have hb3z : (x2.toNat : Int) < 128 := by omega
      go_enter Tryd.func73, Tryd.ntmps73
      have hk0 := (utf8_FullRuneInString.hk w 128 143).1
      have hk1 := (utf8_FullRuneInString.hk w 128 143).2
      go_wp2
      refine start_ (n := 16) (S := utf8_FullRuneInString.S w 128 143) (ds := []) (Sw.b 16 0) (by kernel_rfl) rfl rfl ⟨hk0, hk1⟩ (fun hHeld => ?_)
      refine Sw.pv 0 23 (Sw.b 16 1) ?_
      refine Sw.pv 1 24 (Sw.b 16 3) ?_
      refine Sw.pv 2 25 (Sw.b 16 7) ?_
      refine Sw.pv 3 26 (Sw.b 16 15) ?_
      refine Sw.pv 5 28 (Sw.b 16 47) ?_
      refine Zw73.tv hHeld 4 27 (Sw.b 16 63) ?_
      refine Zw73.tv hHeld 6 29 (Sw.b 16 127) ?_
      refine Sw.pv 7 30 (Sw.b 16 255) ?_
      refine Sw.pv 8 31 (Sw.b 16 511) ?_
      refine Sw.pv 9 32 (Sw.b 16 1023) ?_
      refine Sw.pv 11 34 (Sw.b 16 3071) ?_
      refine Zw73.tv hHeld 10 33 (Sw.b 16 4095) ?_
      refine Zw73.tv hHeld 12 35 (Sw.b 16 8191) ?_
      refine Sw.pv 13 36 (Sw.b 16 16383) ?_
      refine Sw.pv 14 37 (Sw.b 16 32767) ?_
      refine Sw.pv 15 38 (Sw.b 16 65535) ?_
      refine done_ (by kernel_rfl) ?_
      go_wp2
      go_ret
      exact ⟨rfl, ((Below.refl _ _).alloc (Nat.le_refl _) _).drew⟩
    have hb3z : ¬ ((x2.toNat : Int) < 128) := by omega
    by_cases hb4 : 191 < x2.toNat
    · skip
      have hr : utf8_FullRuneInString.N 3 68 x1.toNat x2.toNat = true := by unfold utf8_FullRuneInString.N; simp only [Lib.accLo, Lib.accHi, Nat.reduceMod, Nat.reduceDiv, Nat.reduceEqDiff, if_true, if_false, Nat.reduceLeDiff, Nat.reduceLT, decide_true, decide_false]; simp; omega
      rw [hr] at h
      subst h
      clear hT hX
      have hb4z : (191 : Int) < (x2.toNat : Int) := by omega
      go_enter Tryd.func73, Tryd.ntmps73
      have hk0 := (utf8_FullRuneInString.hk w 128 143).1
      have hk1 := (utf8_FullRuneInString.hk w 128 143).2
      go_wp2
      refine start_ (n := 16) (S := utf8_FullRuneInString.S w 128 143) (ds := []) (Sw.b 16 0) (by kernel_rfl) rfl rfl ⟨hk0, hk1⟩ (fun hHeld => ?_)
      refine Sw.pv 0 23 (Sw.b 16 1) ?_
      refine Sw.pv 1 24 (Sw.b 16 3) ?_
      refine Sw.pv 2 25 (Sw.b 16 7) ?_
      refine Sw.pv 3 26 (Sw.b 16 15) ?_
      refine Sw.pv 5 28 (Sw.b 16 47) ?_
      refine Zw73.tv hHeld 4 27 (Sw.b 16 63) ?_
      refine Zw73.tv hHeld 6 29 (Sw.b 16 127) ?_
      refine Sw.pv 7 30 (Sw.b 16 255) ?_
      refine Sw.pv 8 31 (Sw.b 16 511) ?_
      refine Sw.pv 9 32 (Sw.b 16 1023) ?_
      refine Sw.pv 11 34 (Sw.b 16 3071) ?_
      refine Zw73.tv hHeld 10 33 (Sw.b 16 4095) ?_
      refine Zw73.tv hHeld 12 35 (Sw.b 16 8191) ?_
      refine Sw.pv 13 36 (Sw.b 16 16383) ?_
      refine Sw.pv 14 37 (Sw.b 16 32767) ?_
      refine Sw.pv 15 38 (Sw.b 16 65535) ?_
      refine done_ (by kernel_rfl) ?_
      go_wp2
      go_ret
      exact ⟨rfl, ((Below.refl _ _).alloc (Nat.le_refl _) _).drew⟩
    have hb4z : ¬ ((191 : Int) < (x2.toNat : Int)) := by omega
    have hr : utf8_FullRuneInString.N 3 68 x1.toNat x2.toNat = false := by unfold utf8_FullRuneInString.N; simp only [Lib.accLo, Lib.accHi, Nat.reduceMod, Nat.reduceDiv, Nat.reduceEqDiff, if_true, if_false, Nat.reduceLeDiff, Nat.reduceLT, decide_true, decide_false]; simp; omega
    rw [hr] at h
    subst h
    clear hT hX
    go_enter Tryd.func73, Tryd.ntmps73
    have hk0 := (utf8_FullRuneInString.hk w 128 143).1
    have hk1 := (utf8_FullRuneInString.hk w 128 143).2
    go_wp2
    refine start_ (n := 16) (S := utf8_FullRuneInString.S w 128 143) (ds := []) (Sw.b 16 0) (by kernel_rfl) rfl rfl ⟨hk0, hk1⟩ (fun hHeld => ?_)
    refine Sw.pv 0 23 (Sw.b 16 1) ?_
    refine Sw.pv 1 24 (Sw.b 16 3) ?_
    refine Sw.pv 2 25 (Sw.b 16 7) ?_
    refine Sw.pv 3 26 (Sw.b 16 15) ?_
    refine Sw.pv 5 28 (Sw.b 16 47) ?_
    refine Zw73.tv hHeld 4 27 (Sw.b 16 63) ?_
    refine Zw73.tv hHeld 6 29 (Sw.b 16 127) ?_
    refine Sw.pv 7 30 (Sw.b 16 255) ?_
    refine Sw.pv 8 31 (Sw.b 16 511) ?_
    refine Sw.pv 9 32 (Sw.b 16 1023) ?_
    refine Sw.pv 11 34 (Sw.b 16 3071) ?_
    refine Zw73.tv hHeld 10 33 (Sw.b 16 4095) ?_
    refine Zw73.tv hHeld 12 35 (Sw.b 16 8191) ?_
    refine Sw.pv 13 36 (Sw.b 16 16383) ?_
    refine Sw.pv 14 37 (Sw.b 16 32767) ?_
    refine Sw.pv 15 38 (Sw.b 16 65535) ?_
    refine done_ (by kernel_rfl) ?_
    go_wp2
    go_ret
    exact ⟨rfl, ((Below.refl _ _).alloc (Nat.le_refl _) _).drew⟩


end Go.Proofs.YtliafedmhgkciaaDoor.P
