import Derived.Test.YtpmdecdomfoaoaaDoorCP0
import Derived.Test.YtpmdecdomfoaoaaDoorC1
import Derived.Test.YtpmdecdomfoaoaaDoorC2
import Derived.Test.YtpmdecdomfoaoaaDoorC4
import Derived.Test.YtpmdecdomfoaoaaDoorC5
namespace Go.Proofs.YtpmdecdomfoaoaaDoor.P
open Go.RowKit Go.Proofs.YtpmdecdomfoaoaaDoorW.PrintWords Go.Proofs.YtpmdecdomfoaoaaDoorW.PrintLast Go.Proofs.YtpmdecdomfoaoaaDoorW.PrintMore
attribute [local go_sem] max2_int min2_int max_two min_two max_three min_three max_four min_four   -- for this text's walks alone
set_option linter.unusedVariables false
set_option linter.unusedSimpArgs false


mutual
def impl_Decoder_flush.j0 : Nat → List Int → List Int → Int → Int → Int → Int → ByteArray → Option (List Int × List Int × Int × Int × Int × ByteArray)
 | 0, _, _, _, _, _, _, _ => none
 | k + 1, x4, x5, x6, x1000, x1001, x1002, x1003 => impl_Decoder_flush.l0 k x4 x5 x6 x1000 x1001 x1002 x1003
def impl_Decoder_flush.l0 : Nat → List Int → List Int → Int → Int → Int → Int → ByteArray → Option (List Int × List Int × Int × Int × Int × ByteArray)
 | 0, _, _, _, _, _, _, _ => none
 | k + 1, x4, x5, x6, x1000, x1001, x1002, x1003 => if x1003.toList = ([] : List UInt8) then (some (x4, x5, x1000, x1001, x1002, x1003)) else (if x4.length < 17592186044416 then (if x5.length < 17592186044416 then (if 0 ≤ (mn x6 (x1003.size : Int)) then (if (mn x6 (x1003.size : Int)) ≤ (x1003.size : Int) then (impl_Decoder_flush.l0 k (x4 ++ [65533]) (x5 ++ [mn x6 (x1003.size : Int)]) x6 x1000 x1001 x1002 (x1003.extract ((mn x6 (x1003.size : Int)) : Int).toNat x1003.size)) else (none)) else (none)) else (none)) else (none))
end
def impl_Decoder_flush.f (k : Nat) (s0_0 : Int) (s0_1 : Int) (s0_2 : Int) (s0_3 : ByteArray) : Option (List Int × List Int × Int × Int × Int × ByteArray) := (some (([] : List Int) : List Int)).bind fun y428 => ((some (([] : List Int) : List Int)).bind fun y431 => ((impl_isUnits.f s0_0).bind fun t434 => (if t434 = true then (impl_Decoder_flush.j0 k y428 y431 2 s0_0 s0_1 s0_2 s0_3) else (impl_Decoder_flush.j0 k y428 y431 1 s0_0 s0_1 s0_2 s0_3))))
theorem impl_Decoder_flush.mono_l : ∀ k, (∀ y0 y1 y2 y3 y4 y5 y6, LeO (impl_Decoder_flush.j0 k y0 y1 y2 y3 y4 y5 y6) (impl_Decoder_flush.j0 (k + 1) y0 y1 y2 y3 y4 y5 y6)) ∧ (∀ y0 y1 y2 y3 y4 y5 y6, LeO (impl_Decoder_flush.l0 k y0 y1 y2 y3 y4 y5 y6) (impl_Decoder_flush.l0 (k + 1) y0 y1 y2 y3 y4 y5 y6))
 | 0 => ⟨fun _ _ _ _ _ _ _ r h => by simp [impl_Decoder_flush.j0] at h, fun _ _ _ _ _ _ _ r h => by simp [impl_Decoder_flush.l0] at h⟩
 | k + 1 => by
  obtain ⟨ih0, ih1⟩ := impl_Decoder_flush.mono_l k
  refine ⟨?_, ?_⟩
  ·intro y0 y1 y2 y3 y4 y5 y6
   unfold impl_Decoder_flush.j0
   repeat' first
   | (with_reducible exact ih0 _ _ _ _ _ _ _)
   | (with_reducible exact ih1 _ _ _ _ _ _ _)
   | (with_reducible exact LeO.refl _)
   | (with_reducible exact LeO.none _)
   | (with_reducible refine LeO.ite ?_ ?_)
   | (with_reducible refine LeO.bind ?_ (fun _ => ?_))
   | exact ih0 _ _ _ _ _ _ _
   | exact ih1 _ _ _ _ _ _ _
   | exact LeO.none _
   | refine LeO.ite ?_ ?_
   | refine LeO.bind ?_ (fun _ => ?_)
  ·intro y0 y1 y2 y3 y4 y5 y6
   unfold impl_Decoder_flush.l0
   repeat' first
   | (with_reducible exact ih0 _ _ _ _ _ _ _)
   | (with_reducible exact ih1 _ _ _ _ _ _ _)
   | (with_reducible exact LeO.refl _)
   | (with_reducible exact LeO.none _)
   | (with_reducible refine LeO.ite ?_ ?_)
   | (with_reducible refine LeO.bind ?_ (fun _ => ?_))
   | exact ih0 _ _ _ _ _ _ _
   | exact ih1 _ _ _ _ _ _ _
   | exact LeO.none _
   | refine LeO.ite ?_ ?_
   | refine LeO.bind ?_ (fun _ => ?_)
theorem impl_Decoder_flush.mono : ∀ a0 a1 a2 a3 k, LeO (impl_Decoder_flush.f k a0 a1 a2 a3) (impl_Decoder_flush.f (k + 1) a0 a1 a2 a3) := by
 intro a0 a1 a2 a3 k
 obtain ⟨ih0, ih1⟩ := impl_Decoder_flush.mono_l k
 unfold impl_Decoder_flush.f
 repeat' first
   | (with_reducible exact ih0 _ _ _ _ _ _ _)
   | (with_reducible exact ih1 _ _ _ _ _ _ _)
   | (with_reducible exact LeO.refl _)
   | (with_reducible exact LeO.none _)
   | (with_reducible refine LeO.ite ?_ ?_)
   | (with_reducible refine LeO.bind ?_ (fun _ => ?_))
   | exact ih0 _ _ _ _ _ _ _
   | exact ih1 _ _ _ _ _ _ _
   | exact LeO.none _
   | refine LeO.ite ?_ ?_
   | refine LeO.bind ?_ (fun _ => ?_)
set_option maxHeartbeats 8000000 in
set_option maxRecDepth 100000 in
theorem impl_Decoder_flush.calls (k : Nat) (g : Nat) (s0_0 : Int) (s0_1 : Int) (s0_2 : Int) (s0_3 : ByteArray) (r1 : List Int) (r2 : List Int) (r3 : Int) (r4 : Int) (r5 : Int) (r6 : ByteArray) (w0 w : World) (hI : IsS31 w0 w g s0_0 s0_1 s0_2 s0_3) (hB : Below w0.heap.size w0 w) (h : impl_Decoder_flush.f k s0_0 s0_1 s0_2 s0_3 = some (r1, r2, r3, r4, r5, r6)) :
  Calls Tryd.prog 34 #[.pointer (some ⟨g, 0, none⟩)] w fun e w' => ∃ v0_ v1_ : Value, e = .returned (.tuple #[v0_, v1_]) ∧ Kd.R (Kd.int .i64) 3 w' w.heap.size (fun k_ => some k_ ≠ (v1_ : Value).ownBlock) v0_ r1 ∧ Kd.R (Kd.int .i64) 3 w' w.heap.size (fun k_ => some k_ ≠ (v0_ : Value).ownBlock) v1_ r2 ∧ IsS31 w0 w' g r3 r4 r5 r6 ∧ Below w0.heap.size w0 w' ∧ KeepBut w w' g none := by
 have HI0 := Aside0.mk hI
 have HK := Aside0.mk (KeepBut.refl w g none)
 have HL := Aside0.mk hB.size
 clear hI
 have HW0 := Aside0.mk hB.size
 have HB := Aside0.mk hB
 clear hB
 have H : ((some (([] : List Int) : List Int)).bind fun y428 => ((some (([] : List Int) : List Int)).bind fun y431 => ((impl_isUnits.f s0_0).bind fun t434 => (if t434 = true then (impl_Decoder_flush.j0 k y428 y431 2 s0_0 s0_1 s0_2 s0_3) else (impl_Decoder_flush.j0 k y428 y431 1 s0_0 s0_1 s0_2 s0_3))))) = some (r1, r2, r3, r4, r5, r6) := h
 clear h
 obtain ⟨y428, hy428⟩ : ∃ y_ : List Int, y_ = (([] : List Int)) := ⟨_, rfl⟩
 replace H : ((some (([] : List Int) : List Int)).bind fun y431 => ((impl_isUnits.f s0_0).bind fun t434 => (if t434 = true then (impl_Decoder_flush.j0 k y428 y431 2 s0_0 s0_1 s0_2 s0_3) else (impl_Decoder_flush.j0 k y428 y431 1 s0_0 s0_1 s0_2 s0_3)))) = some (r1, r2, r3, r4, r5, r6) := by first | (rw [hy428]; with_reducible exact H) | (have H2_ := (Option.bind_some _ _).symm.trans H; rw [hy428]; with_reducible exact H2_) | (have H2_ := (Option.bind_some _ _).symm.trans H; with_reducible exact H2_) | with_reducible exact H | (rw [hy428]; exact H) | exact H
 have Ny428 := Aside0.mk hy428
 clear hy428
 obtain ⟨y431, hy431⟩ : ∃ y_ : List Int, y_ = (([] : List Int)) := ⟨_, rfl⟩
 replace H : ((impl_isUnits.f s0_0).bind fun t434 => (if t434 = true then (impl_Decoder_flush.j0 k y428 y431 2 s0_0 s0_1 s0_2 s0_3) else (impl_Decoder_flush.j0 k y428 y431 1 s0_0 s0_1 s0_2 s0_3))) = some (r1, r2, r3, r4, r5, r6) := by first | (rw [hy431]; with_reducible exact H) | (have H2_ := (Option.bind_some _ _).symm.trans H; rw [hy431]; with_reducible exact H2_) | (have H2_ := (Option.bind_some _ _).symm.trans H; with_reducible exact H2_) | with_reducible exact H | (rw [hy431]; exact H) | exact H
 have Ny431 := Aside0.mk hy431
 clear hy431
 replace H := Option.bind_eq_some_iff.mp H
 obtain ⟨t434, A20, H⟩ := H
 replace H : (if t434 = true then (impl_Decoder_flush.j0 k y428 y431 2 s0_0 s0_1 s0_2 s0_3) else (impl_Decoder_flush.j0 k y428 y431 1 s0_0 s0_1 s0_2 s0_3)) = some (r1, r2, r3, r4, r5, r6) := H
 have A2 := Aside0.mk A20
 clear A20
 have HC3 := Aside0.mk H
 clear H
 go_enter Tryd.func34, Tryd.ntmps34
 go_upto_if 14 with (first | ((with_reducible refine gate_dst (N := 8) rfl ?_); refine Kd.R_lit (Kd.int .i64) _ 3 ?hg (N := 8) ?hd (xs := ([] : List Int)) (inner := []) (ok := fun _ => True) (okp := fun _ => True) ?hr ?hp (fun _ hk => hk) trivial (Below.refl _ _) (Nat.le_refl _) (by simp) ?_; (case hd => rfl); (case hg => rfl); (case hr => first | (go_simp; done) | (go_simp; rfl)); (case hp => exact (Reps.none _ _)); intro v429 w4 ho5 hb hg_ hnew_; clear hg_ hnew_; (first | rw [← Ny428.out] at ho5 | (simp only [Int.reduceToNat] at ho5; rw [← Ny428.out] at ho5)); have n0_ := Aside0.mk (Kd.R_lower ho5 (keep_size (w := w) (g := g) (row := none) (by repeat (first | (with_reducible first | exact HK.out | apply KeepBut.set_ | apply keep_drewN | apply keep_drew | apply keep_alloc) | exact HK.out)))); have n1_ := Aside0.mk (IsS31.below (by repeat (first | (with_reducible first | exact HI0.out | apply IsS31.alloc | apply IsS31.drewN | apply IsS31.drew | apply IsS31.set_0 | apply IsS31.set_1 | apply IsS31.set_2 | apply IsS31.set_3) | exact HI0.out)) hb); have n2_ := Aside0.mk (KeepBut.trans (by repeat (first | (with_reducible first | exact HK.out | apply KeepBut.set_ | apply keep_drewN | apply keep_drew | apply keep_alloc) | exact HK.out)) (KeepBut.of_below hb g none) (.inl rfl)); have n3_ := Aside0.mk (below_step (by repeat (first | (with_reducible first | exact HB.out | apply below_alloc | apply pw_below_drewN | apply below_drew1 | refine below_set ?_ (IsS31.ge HI0.out)) | exact HB.out)) hb); clear HI0; clear HK; clear HB; have HO430 := n0_; have HI0 := n1_; have HK := n2_; have HB := n3_; clear n0_ n1_ n2_ n3_; clear hb ho5) | ((with_reducible refine gate_dst (N := 9) rfl ?_); refine Kd.R_lit (Kd.int .i64) _ 3 ?hg (N := 9) ?hd (xs := ([] : List Int)) (inner := []) (ok := fun _ => True) (okp := fun _ => True) ?hr ?hp (fun _ hk => hk) trivial (Below.refl _ _) (Nat.le_refl _) (by simp) ?_; (case hd => rfl); (case hg => rfl); (case hr => first | (go_simp; done) | (go_simp; rfl)); (case hp => exact (Reps.none _ _)); intro v432 w6 ho7 hb hg_ hnew_; clear hg_ hnew_; (first | rw [← Ny431.out] at ho7 | (simp only [Int.reduceToNat] at ho7; rw [← Ny431.out] at ho7)); have n0_ := Aside0.mk (Kd.R_elder' (by (with_reducible repeat (first | apply Kd.R_alloc | apply Kd.R_drewN | apply Kd.R_drew)); exact HO430.out) (Kd.R_base ho7) hb); have n1_ := Aside0.mk (Kd.R_lower (Kd.R_new' ho7 (Kd.R_lt (by (with_reducible repeat (first | apply Kd.R_alloc | apply Kd.R_drewN | apply Kd.R_drew)); exact HO430.out))) (keep_size (w := w) (g := g) (row := none) (by repeat (first | (with_reducible first | exact HK.out | apply KeepBut.set_ | apply keep_drewN | apply keep_drew | apply keep_alloc) | exact HK.out)))); have n2_ := Aside0.mk (IsS31.below (by repeat (first | (with_reducible first | exact HI0.out | apply IsS31.alloc | apply IsS31.drewN | apply IsS31.drew | apply IsS31.set_0 | apply IsS31.set_1 | apply IsS31.set_2 | apply IsS31.set_3) | exact HI0.out)) hb); have n3_ := Aside0.mk (KeepBut.trans (by repeat (first | (with_reducible first | exact HK.out | apply KeepBut.set_ | apply keep_drewN | apply keep_drew | apply keep_alloc) | exact HK.out)) (KeepBut.of_below hb g none) (.inl rfl)); have n4_ := Aside0.mk (below_step (by repeat (first | (with_reducible first | exact HB.out | apply below_alloc | apply pw_below_drewN | apply below_drew1 | refine below_set ?_ (IsS31.ge HI0.out)) | exact HB.out)) hb); clear HO430; clear HI0; clear HK; clear HB; have HO430 := n0_; have HO433 := n1_; have HI0 := n2_; have HK := n3_; have HB := n4_; clear n0_ n1_ n2_ n3_ n4_; clear hb ho7; obtain ⟨HGz8, hgz8⟩ := HI0.out; have hcz8_0 := cellS31_0 HGz8; have hcz8_1 := cellS31_1 HGz8; have hcz8_2 := cellS31_2 HGz8; have hcz8_3 := cellS31_3 HGz8; have hfz8_0 := blk_frozen HGz8 0; have hfz8_1 := blk_frozen HGz8 1; have hfz8_2 := blk_frozen HGz8 2; have hfz8_3 := blk_frozen HGz8 3; clear HGz8 hgz8) | ((with_reducible refine gate_callee (f := 46) rfl ?_); refine goesL_ (some 14) rfl rfl Tryd.func46 (by kernel_rfl) rfl #[.int .i64 s0_0] rfl (by (try simp only [List.map_toArray, List.map_cons, List.map_nil]); first | done | rfl | (simp only [List.length_drop, List.length_take]; rfl)) ?_; (with_reducible refine (impl_isUnits.calls s0_0 t434 _ A2.out).mono ?_); rintro e w' ⟨rfl, ⟨nd, rfl⟩⟩; refine ⟨_, rfl, ?_⟩))
 (try simp only [Act.put, List.setIfInBounds_toArray, List.set_cons_zero, List.set_cons_succ])
 go_cut [6] (fun v6 wc => ∃ (kq : Nat) (x6_2 : Int), v6 = .int .i64 x6_2 ∧ Aside0 (impl_Decoder_flush.j0 kq y428 y431 x6_2 s0_0 s0_1 s0_2 s0_3 = some (r1, r2, r3, r4, r5, r6)) ∧ Aside0 (kq ≤ k) ∧ Aside0 (Kd.R (Kd.int .i64) 3 wc w.heap.size (fun k_ => some k_ ≠ (v432 : Value).ownBlock) v429 y428) ∧ Aside0 (Kd.R (Kd.int .i64) 3 wc w.heap.size (fun k_ => some k_ ≠ (v429 : Value).ownBlock) v432 y431) ∧ Aside0 (IsS31 w0 wc g s0_0 s0_1 s0_2 s0_3) ∧ Aside0 (KeepBut w wc g none) ∧ Aside0 (Below w0.heap.size w0 wc))
 case first =>
  have H := HC3.out
  clear HC3
  by_cases c9 : t434 = true
  ·subst c9
   have H1 : (impl_Decoder_flush.j0 k y428 y431 2 s0_0 s0_1 s0_2 s0_3) = some (r1, r2, r3, r4, r5, r6) := by rw [if_pos rfl] at H; exact H
   clear H
   have H := H1
   clear H1
   have H' := Aside0.mk H
   clear H
   go_wp2
   go_meet
   case rel => exact ⟨_, (2), (by first | rfl | (simp; done) | (simp [*]; done)), H', ⟨by first | omega | exact Nat.le_refl _⟩, ⟨by (with_reducible repeat (first | apply Kd.R_alloc | apply Kd.R_drewN | apply Kd.R_drew)); exact Kd.R_mono HO430.out (fun _ hk => hk.2)⟩, ⟨by (with_reducible repeat (first | apply Kd.R_alloc | apply Kd.R_drewN | apply Kd.R_drew)); exact Kd.R_mono HO433.out (fun _ hk => hk.2)⟩, ⟨by repeat (first | (with_reducible first | exact HI0.out | apply IsS31.alloc | apply IsS31.drewN | apply IsS31.drew | apply IsS31.set_0 | apply IsS31.set_1 | apply IsS31.set_2 | apply IsS31.set_3) | exact HI0.out)⟩, ⟨by repeat (first | (with_reducible first | exact HK.out | apply KeepBut.set_ | apply keep_drewN | apply keep_drew | apply keep_alloc) | exact HK.out)⟩, ⟨by repeat (first | (with_reducible first | exact HB.out | apply below_alloc | apply pw_below_drewN | apply below_drew1 | refine below_set ?_ (IsS31.ge HI0.out)) | exact HB.out)⟩⟩
  ·replace c9 := Bool.eq_false_iff.mpr c9
   subst c9
   have H1 : (impl_Decoder_flush.j0 k y428 y431 1 s0_0 s0_1 s0_2 s0_3) = some (r1, r2, r3, r4, r5, r6) := by rw [if_neg (show ¬ (false = true) by decide)] at H; exact H
   clear H
   have H := H1
   clear H1
   have H' := Aside0.mk H
   clear H
   go_wp2
   go_meet
   case rel => exact ⟨_, (1), (by first | rfl | (simp; done) | (simp [*]; done)), H', ⟨by first | omega | exact Nat.le_refl _⟩, ⟨by (with_reducible repeat (first | apply Kd.R_alloc | apply Kd.R_drewN | apply Kd.R_drew)); exact Kd.R_mono HO430.out (fun _ hk => hk.2)⟩, ⟨by (with_reducible repeat (first | apply Kd.R_alloc | apply Kd.R_drewN | apply Kd.R_drew)); exact Kd.R_mono HO433.out (fun _ hk => hk.2)⟩, ⟨by repeat (first | (with_reducible first | exact HI0.out | apply IsS31.alloc | apply IsS31.drewN | apply IsS31.drew | apply IsS31.set_0 | apply IsS31.set_1 | apply IsS31.set_2 | apply IsS31.set_3) | exact HI0.out)⟩, ⟨by repeat (first | (with_reducible first | exact HK.out | apply KeepBut.set_ | apply keep_drewN | apply keep_drew | apply keep_alloc) | exact HK.out)⟩, ⟨by repeat (first | (with_reducible first | exact HB.out | apply below_alloc | apply pw_below_drewN | apply below_drew1 | refine below_set ?_ (IsS31.ge HI0.out)) | exact HB.out)⟩⟩
 case rest =>
  clear HC3
  try clear p2
  try clear c3
  try clear c4
  try clear c9
  try clear hcz8_0
  try clear hcz8_1
  try clear hcz8_2
  try clear hcz8_3
  try clear hfz8_0
  try clear hfz8_1
  try clear hfz8_2
  try clear hfz8_3
  obtain ⟨kq, x6_2, rfl, HA, HJ2, HO_4, HO_5, HI0, HK, HB⟩ := hcut
  cases kq with
  | zero => exact absurd HA.out (by simp [impl_Decoder_flush.j0])
  | succ kj2 =>
   have H := HA.out
   clear HA
   simp only [impl_Decoder_flush.j0] at H
   have H' := Aside0.mk H
   clear H
   go_wp2
   go_loopg [4, 5] kj2 (fun kq v4 v5 w' => ∃ (x4_2 : List Int) (x5_2 : List Int) (x1003_2 : ByteArray), Aside0 (impl_Decoder_flush.l0 kq x4_2 x5_2 x6_2 s0_0 s0_1 s0_2 x1003_2 = some (r1, r2, r3, r4, r5, r6)) ∧ Aside0 (kq ≤ kj2) ∧ Aside0 (Kd.R (Kd.int .i64) 3 w' w.heap.size (fun k_ => some k_ ≠ (v5 : Value).ownBlock) v4 x4_2) ∧ Aside0 (Kd.R (Kd.int .i64) 3 w' w.heap.size (fun k_ => some k_ ≠ (v4 : Value).ownBlock) v5 x5_2) ∧ Aside0 (IsS31 w0 w' g s0_0 s0_1 s0_2 x1003_2) ∧ Aside0 (KeepBut w w' g none) ∧ Aside0 (Below w0.heap.size w0 w'))
   case atStart => exact ⟨(y428), (y431), (s0_3), H', ⟨Nat.le_refl _⟩, ⟨by (with_reducible repeat (first | apply Kd.R_alloc | apply Kd.R_drewN | apply Kd.R_drew)); exact HO_4.out⟩, ⟨by (with_reducible repeat (first | apply Kd.R_alloc | apply Kd.R_drewN | apply Kd.R_drew)); exact HO_5.out⟩, ⟨by repeat (first | (with_reducible first | exact HI0.out | apply IsS31.alloc | apply IsS31.drewN | apply IsS31.drew | apply IsS31.set_0 | apply IsS31.set_1 | apply IsS31.set_2 | apply IsS31.set_3) | exact HI0.out)⟩, ⟨by repeat (first | (with_reducible first | exact HK.out | apply KeepBut.set_ | apply keep_drewN | apply keep_drew | apply keep_alloc) | exact HK.out)⟩, ⟨by repeat (first | (with_reducible first | exact HB.out | apply below_alloc | apply pw_below_drewN | apply below_drew1 | refine below_set ?_ (IsS31.ge HI0.out)) | exact HB.out)⟩⟩
   case round =>
    clear H'
    try clear p2
    try clear c3
    try clear c4
    try clear c9
    try clear hcz8_0
    try clear hcz8_1
    try clear hcz8_2
    try clear hcz8_3
    try clear hfz8_0
    try clear hfz8_1
    try clear hfz8_2
    try clear hfz8_3
    try clear p2
    obtain ⟨x4_2, x5_2, x1003_2, HA, HK2, HO_4, HO_5, HI0, HK, HB⟩ := hrel
    cases gk with
    | zero => exact absurd HA.out (by simp [impl_Decoder_flush.l0])
    | succ k2 =>
     have H := HA.out
     clear HA
     simp only [impl_Decoder_flush.l0] at H
     by_cases c10 : x1003_2.toList = ([] : List UInt8)
     ·rw [if_pos c10] at H
      have c10b0 : (x1003_2.toList == ([] : List UInt8)) = true := beq_iff_eq.mpr c10
      have c10b1 : (x1003_2.toList != ([] : List UInt8)) = false := bne_eq_false_iff_eq.mpr c10
      clear c10
      simp only [Option.some.injEq, Prod.mk.injEq] at H
      obtain ⟨rfl, rfl, rfl, rfl, rfl, rfl⟩ := H
      obtain ⟨HGz11, hgz11⟩ := HI0.out
      have hcz11_0 := cellS31_0 HGz11
      have hcz11_1 := cellS31_1 HGz11
      have hcz11_2 := cellS31_2 HGz11
      have hcz11_3 := cellS31_3 HGz11
      have hfz11_0 := blk_frozen HGz11 0
      have hfz11_1 := blk_frozen HGz11 1
      have hfz11_2 := blk_frozen HGz11 2
      have hfz11_3 := blk_frozen HGz11 3
      clear HGz11 hgz11
      go_wp2
      go_ret2
      exact ⟨_, _, by first | rfl | (simp [errW_none, errW_some] <;> rfl) | (simp [*, errW_none, errW_some] <;> rfl), by (with_reducible repeat (first | apply Kd.R_alloc | apply Kd.R_drewN | apply Kd.R_drew)); exact HO_4.out, by (with_reducible repeat (first | apply Kd.R_alloc | apply Kd.R_drewN | apply Kd.R_drew)); exact HO_5.out, by repeat (first | (with_reducible first | exact HI0.out | apply IsS31.alloc | apply IsS31.drewN | apply IsS31.drew | apply IsS31.set_0 | apply IsS31.set_1 | apply IsS31.set_2 | apply IsS31.set_3) | exact HI0.out), by repeat (first | (with_reducible first | exact HB.out | apply below_alloc | apply pw_below_drewN | apply below_drew1 | refine below_set ?_ (IsS31.ge HI0.out)) | exact HB.out), by repeat (first | (with_reducible first | exact HK.out | apply KeepBut.set_ | apply keep_drewN | apply keep_drew | apply keep_alloc) | exact HK.out)⟩
     ·rw [if_neg c10] at H
      have c10b0 : (x1003_2.toList == ([] : List UInt8)) = false := beq_eq_false_iff_ne.mpr c10
      have c10b1 : (x1003_2.toList != ([] : List UInt8)) = true := bne_iff_ne.mpr c10
      obtain ⟨ji12, hji12⟩ : ∃ j_ : Int, (mn x6_2 (x1003_2.size : Int)) = j_ := ⟨_, rfl⟩
      replace H : (if x4_2.length < 17592186044416 then (if x5_2.length < 17592186044416 then (if 0 ≤ (ji12) then (if (ji12) ≤ (x1003_2.size : Int) then (impl_Decoder_flush.l0 k2 (x4_2 ++ [65533]) (x5_2 ++ [ji12]) x6_2 s0_0 s0_1 s0_2 (x1003_2.extract ((ji12) : Int).toNat x1003_2.size)) else (none)) else (none)) else (none)) else (none)) = some (r1, r2, r3, r4, r5, r6) := by first | (rw [hji12] at H; exact H) | (simp only [hji12] at H ⊢; exact H)
      have hji12_ : (if (x1003_2.size : Int) < x6_2 then (x1003_2.size : Int) else x6_2) = ji12 := hji12
      by_cases c13 : x4_2.length < 17592186044416
      ·rw [if_pos c13] at H
       have LMc13 := Aside0.mk c13
       clear c13
       obtain ⟨y435, hy435⟩ : ∃ y_ : List Int, y_ = (x4_2 ++ [65533]) := ⟨_, rfl⟩
       replace H : (if x5_2.length < 17592186044416 then (if 0 ≤ (ji12) then (if (ji12) ≤ (x1003_2.size : Int) then (impl_Decoder_flush.l0 k2 y435 (x5_2 ++ [ji12]) x6_2 s0_0 s0_1 s0_2 (x1003_2.extract ((ji12) : Int).toNat x1003_2.size)) else (none)) else (none)) else (none)) = some (r1, r2, r3, r4, r5, r6) := by first | (rw [hy435]; with_reducible exact H) | (have H2_ := (Option.bind_some _ _).symm.trans H; rw [hy435]; with_reducible exact H2_) | (have H2_ := (Option.bind_some _ _).symm.trans H; with_reducible exact H2_) | with_reducible exact H | (rw [hy435]; exact H) | exact H
       have Ny435 := Aside0.mk hy435
       clear hy435
       by_cases c14 : x5_2.length < 17592186044416
       ·rw [if_pos c14] at H
        have LMc14 := Aside0.mk c14
        clear c14
        obtain ⟨y438, hy438⟩ : ∃ y_ : List Int, y_ = (x5_2 ++ [ji12]) := ⟨_, rfl⟩
        replace H : (if 0 ≤ (ji12) then (if (ji12) ≤ (x1003_2.size : Int) then (impl_Decoder_flush.l0 k2 y435 y438 x6_2 s0_0 s0_1 s0_2 (x1003_2.extract ((ji12) : Int).toNat x1003_2.size)) else (none)) else (none)) = some (r1, r2, r3, r4, r5, r6) := by first | (rw [hy438]; with_reducible exact H) | (have H2_ := (Option.bind_some _ _).symm.trans H; rw [hy438]; with_reducible exact H2_) | (have H2_ := (Option.bind_some _ _).symm.trans H; with_reducible exact H2_) | with_reducible exact H | (rw [hy438]; exact H) | exact H
        have Ny438 := Aside0.mk hy438
        clear hy438
        by_cases c15 : 0 ≤ (ji12)
        ·rw [if_pos c15] at H
         have c15b0 := eq_true c15
         have c15b1 : decide (0 ≤ (ji12)) = true := decide_eq_true c15
         clear c15
         by_cases c16 : (ji12) ≤ (x1003_2.size : Int)
         ·rw [if_pos c16] at H
          have c16b0 := eq_true c16
          have c16b1 : decide ((ji12) ≤ (x1003_2.size : Int)) = true := decide_eq_true c16
          clear c16
          have H' := Aside0.mk H
          clear H
          obtain ⟨HGz17, hgz17⟩ := HI0.out
          have hcz17_0 := cellS31_0 HGz17
          have hcz17_1 := cellS31_1 HGz17
          have hcz17_2 := cellS31_2 HGz17
          have hcz17_3 := cellS31_3 HGz17
          have hfz17_0 := blk_frozen HGz17 0
          have hfz17_1 := blk_frozen HGz17 1
          have hfz17_2 := blk_frozen HGz17 2
          have hfz17_3 := blk_frozen HGz17 3
          clear HGz17 hgz17
          go_wp2_with (first | ((with_reducible refine gate_builtin (b := .append) (xs := #[.tmp 27, .tmp 28]) rfl ?_); at_builtin; refine Kd.R_append (Kd.int .i64) w.heap.size rfl (.tmp 27) (.tmp 28) 24 3 (.int .i64 0) 8 rfl Tryd.underlying24 info3 rfl (by decide) (by omega) u4 x4_2 65533 [.int .i64 65533] (fun k_ => some k_ ≠ (u5 : Value).ownBlock) (fun _ => False) rfl rfl ?aP (fun _ hk => hk.elim) ?aF ?aO (Below.refl _ _) ?aS ?aL ?_; (case aP => exact rfl); (case aF => exact (fun k_ hk => Kd.fresh' (Kd.R_lt (by (with_reducible repeat (first | apply Kd.R_alloc | apply Kd.R_drewN | apply Kd.R_drew)); exact HO_5.out)) k_ hk)); (case aO => exact (by (with_reducible repeat (first | apply Kd.R_alloc | apply Kd.R_drewN | apply Kd.R_drew)); exact HO_4.out)); (case aS => exact (keep_size (w := w) (g := g) (row := none) (by repeat (first | (with_reducible first | exact HK.out | apply KeepBut.set_ | apply keep_drewN | apply keep_drew | apply keep_alloc) | exact HK.out)))); (case aL => have := LMc13.out; omega); intro v436 w18 ho hb hg hat; rw [← Ny435.out] at ho; have n0_ := Aside0.mk (Kd.R_after (ok := (fun _ => True)) (by (with_reducible repeat (first | apply Kd.R_alloc | apply Kd.R_drewN | apply Kd.R_drew)); exact Kd.R_mono HO_5.out (fun _ hk => ⟨trivial, hk⟩)) hg hat); have n1_ := Aside0.mk (IsS31.grown (by repeat (first | (with_reducible first | exact HI0.out | apply IsS31.alloc | apply IsS31.drewN | apply IsS31.drew | apply IsS31.set_0 | apply IsS31.set_1 | apply IsS31.set_2 | apply IsS31.set_3) | exact HI0.out)) hg (IsS31.own_ne HI0.out HO_4.out (by decide))); have n2_ := Aside0.mk (below_weaken (by repeat (first | (with_reducible first | exact HB.out | apply below_alloc | apply pw_below_drewN | apply below_drew1 | refine below_set ?_ (IsS31.ge HI0.out)) | exact HB.out)) HL.out hb); have n3_ := Aside0.mk (KeepBut.trans (by repeat (first | (with_reducible first | exact HK.out | apply KeepBut.set_ | apply keep_drewN | apply keep_drew | apply keep_alloc) | exact HK.out)) (KeepBut.of_grown hg g) (Kd.R_base2 HO_4.out)); have n4_ := Aside0.mk (ho); clear HO_5; clear HI0; clear HB; clear HK; clear HO_4; have HO_5 := n0_; have HI0 := n1_; have HB := n2_; have HK := n3_; have HO437 := n4_; clear n0_ n1_ n2_ n3_ n4_; clear ho hb hg hat) | ((with_reducible refine gate_builtin (b := .append) (xs := #[.tmp 30, .tmp 32]) rfl ?_); at_builtin; refine Kd.R_append (Kd.int .i64) w.heap.size rfl (.tmp 30) (.tmp 32) 24 3 (.int .i64 0) 8 rfl Tryd.underlying24 info3 rfl (by decide) (by omega) u5 x5_2 ji12 [.int .i64 ji12] (fun k_ => some k_ ≠ (v436 : Value).ownBlock) (fun _ => False) rfl rfl ?aP (fun _ hk => hk.elim) ?aF ?aO (Below.refl _ _) ?aS ?aL ?_; (case aP => exact rfl); (case aF => exact (fun k_ hk => Kd.fresh' (Kd.R_lt (by (with_reducible repeat (first | apply Kd.R_alloc | apply Kd.R_drewN | apply Kd.R_drew)); exact HO437.out)) k_ hk)); (case aO => exact (by (with_reducible repeat (first | apply Kd.R_alloc | apply Kd.R_drewN | apply Kd.R_drew)); exact Kd.R_mono HO_5.out (fun _ hk => hk.2))); (case aS => exact (keep_size (w := w) (g := g) (row := none) (by repeat (first | (with_reducible first | exact HK.out | apply KeepBut.set_ | apply keep_drewN | apply keep_drew | apply keep_alloc) | exact HK.out)))); (case aL => have := LMc14.out; omega); intro v439 w19 ho hb hg hat; rw [← Ny438.out] at ho; have n0_ := Aside0.mk (IsS31.grown (by repeat (first | (with_reducible first | exact HI0.out | apply IsS31.alloc | apply IsS31.drewN | apply IsS31.drew | apply IsS31.set_0 | apply IsS31.set_1 | apply IsS31.set_2 | apply IsS31.set_3) | exact HI0.out)) hg (IsS31.own_ne HI0.out HO_5.out (by decide))); have n1_ := Aside0.mk (Kd.R_after (ok := (fun _ => True)) (by (with_reducible repeat (first | apply Kd.R_alloc | apply Kd.R_drewN | apply Kd.R_drew)); exact Kd.R_mono HO437.out (fun _ hk => ⟨trivial, hk⟩)) hg hat); have n2_ := Aside0.mk (below_weaken (by repeat (first | (with_reducible first | exact HB.out | apply below_alloc | apply pw_below_drewN | apply below_drew1 | refine below_set ?_ (IsS31.ge HI0.out)) | exact HB.out)) HL.out hb); have n3_ := Aside0.mk (KeepBut.trans (by repeat (first | (with_reducible first | exact HK.out | apply KeepBut.set_ | apply keep_drewN | apply keep_drew | apply keep_alloc) | exact HK.out)) (KeepBut.of_grown hg g) (Kd.R_base2 HO_5.out)); have n4_ := Aside0.mk (ho); clear HI0; clear HO437; clear HB; clear HK; clear HO_5; have HI0 := n0_; have HO437 := n1_; have HB := n2_; have HK := n3_; have HO440 := n4_; clear n0_ n1_ n2_ n3_ n4_; clear ho hb hg hat; obtain ⟨HGz20, hgz20⟩ := HI0.out; have hcz20_0 := cellS31_0 HGz20; have hcz20_1 := cellS31_1 HGz20; have hcz20_2 := cellS31_2 HGz20; have hcz20_3 := cellS31_3 HGz20; have hfz20_0 := blk_frozen HGz20 0; have hfz20_1 := blk_frozen HGz20 1; have hfz20_2 := blk_frozen HGz20 2; have hfz20_3 := blk_frozen HGz20 3; clear HGz20 hgz20))
          go_roundg k2
          case measure => have := HJ2.out; have := HK2.out; omega
          case rel => exact ⟨(y435), (y438), (x1003_2.extract ((ji12) : Int).toNat x1003_2.size), H', ⟨by have := HJ2.out; have := HK2.out; omega⟩, ⟨by (with_reducible repeat (first | apply Kd.R_alloc | apply Kd.R_drewN | apply Kd.R_drew)); exact Kd.R_mono (Kd.R_far (p := ⟨g, 3, none⟩) (IsS31.apart HI0.out HO437.out (by decide)) (fun _ hk => hk.2) (.string (x1003_2.extract ((ji12) : Int).toNat x1003_2.size))) (fun _ hk => hk.1.2)⟩, ⟨by (with_reducible repeat (first | apply Kd.R_alloc | apply Kd.R_drewN | apply Kd.R_drew)); exact Kd.R_mono (Kd.R_far (p := ⟨g, 3, none⟩) (IsS31.apart HI0.out HO440.out (by decide)) (fun _ hk => hk.2) (.string (x1003_2.extract ((ji12) : Int).toNat x1003_2.size))) (fun _ hk => hk.1)⟩, ⟨by repeat (first | (with_reducible first | exact HI0.out | apply IsS31.alloc | apply IsS31.drewN | apply IsS31.drew | apply IsS31.set_0 | apply IsS31.set_1 | apply IsS31.set_2 | apply IsS31.set_3) | exact HI0.out)⟩, ⟨by repeat (first | (with_reducible first | exact HK.out | apply KeepBut.set_ | apply keep_drewN | apply keep_drew | apply keep_alloc) | exact HK.out)⟩, ⟨by repeat (first | (with_reducible first | exact HB.out | apply below_alloc | apply pw_below_drewN | apply below_drew1 | refine below_set ?_ (IsS31.ge HI0.out)) | exact HB.out)⟩⟩
         ·rw [if_neg c16] at H
          exact absurd H (by simp)
        ·rw [if_neg c15] at H
         exact absurd H (by simp)
       ·rw [if_neg c14] at H
        exact absurd H (by simp)
      ·rw [if_neg c13] at H
       exact absurd H (by simp)

def impl_DecodeAll.j0 : Nat → Int → ByteArray → Bool → Option (List Int × List Int × Bool)
 | 0, _, _, _ => none
 | k + 1, x0, x1, x19 => if x19 = true then (some (([] : List Int), ([] : List Int), false)) else ((impl_Decoder_feed.f k x0 0 0 (⟨#[]⟩ : ByteArray) x1).bind fun bt443 => ((impl_Decoder_flush.f k bt443.2.2.1 bt443.2.2.2.1 bt443.2.2.2.2.1 bt443.2.2.2.2.2).bind fun bt453 => (if bt443.1.length + bt453.1.length < 17592186044416 then (if bt443.2.1.length + bt453.2.1.length < 17592186044416 then (some ((bt443.1 ++ bt453.1), (bt443.2.1 ++ bt453.2.1), true)) else (none)) else (none))))
def impl_DecodeAll.f (k : Nat) (a0 : Int) (a1 : ByteArray) : Option (List Int × List Int × Bool) := (impl_isCode.f a0).bind fun t441 => (if t441 = true then (impl_DecodeAll.j0 k a0 a1 (decide ((a1.size : Int) > 1000))) else (impl_DecodeAll.j0 k a0 a1 true))
theorem impl_DecodeAll.mono_l : ∀ k, (∀ y0 y1 y2, LeO (impl_DecodeAll.j0 k y0 y1 y2) (impl_DecodeAll.j0 (k + 1) y0 y1 y2))
 | 0 => fun _ _ _ r h => by simp [impl_DecodeAll.j0] at h
 | k + 1 => by
  have ih0 := impl_DecodeAll.mono_l k
  ·intro y0 y1 y2
   unfold impl_DecodeAll.j0
   repeat' first
   | (with_reducible exact ih0 _ _ _)
   | (with_reducible exact impl_Decoder_feed.mono _ _ _ _ _ _)
   | (with_reducible exact impl_Decoder_flush.mono _ _ _ _ _)
   | (with_reducible exact LeO.refl _)
   | (with_reducible exact LeO.none _)
   | (with_reducible refine LeO.ite ?_ ?_)
   | (with_reducible refine LeO.bind ?_ (fun _ => ?_))
   | exact ih0 _ _ _
   | exact impl_Decoder_feed.mono _ _ _ _ _ _
   | exact impl_Decoder_flush.mono _ _ _ _ _
   | exact LeO.none _
   | refine LeO.ite ?_ ?_
   | refine LeO.bind ?_ (fun _ => ?_)
theorem impl_DecodeAll.mono : ∀ a0 a1 k, LeO (impl_DecodeAll.f k a0 a1) (impl_DecodeAll.f (k + 1) a0 a1) := by
 intro a0 a1 k
 have ih0 := impl_DecodeAll.mono_l k
 unfold impl_DecodeAll.f
 repeat' first
   | (with_reducible exact ih0 _ _ _)
   | (with_reducible exact impl_Decoder_feed.mono _ _ _ _ _ _)
   | (with_reducible exact impl_Decoder_flush.mono _ _ _ _ _)
   | (with_reducible exact LeO.refl _)
   | (with_reducible exact LeO.none _)
   | (with_reducible refine LeO.ite ?_ ?_)
   | (with_reducible refine LeO.bind ?_ (fun _ => ?_))
   | exact ih0 _ _ _
   | exact impl_Decoder_feed.mono _ _ _ _ _ _
   | exact impl_Decoder_flush.mono _ _ _ _ _
   | exact LeO.none _
   | refine LeO.ite ?_ ?_
   | refine LeO.bind ?_ (fun _ => ?_)
set_option maxHeartbeats 8000000 in
set_option maxRecDepth 100000 in
theorem impl_DecodeAll.calls (k : Nat) (a0 : Int) (a1 : ByteArray) (r1 : List Int) (r2 : List Int) (r3 : Bool) (w : World) (hT : Lib.Utf8Tabs 0 1 w) (h : impl_DecodeAll.f k a0 a1 = some (r1, r2, r3)) :
  Calls Tryd.prog 20 #[.int .i64 a0, .string a1] w fun e w' => ∃ v0_ v1_ : Value, e = .returned (.tuple #[v0_, v1_, .bool r3]) ∧ Kd.R (Kd.int .i64) 3 w' w.heap.size (fun k_ => some k_ ≠ (v1_ : Value).ownBlock) v0_ r1 ∧ Kd.R (Kd.int .i64) 3 w' w.heap.size (fun k_ => some k_ ≠ (v0_ : Value).ownBlock) v1_ r2 ∧ Below w.heap.size w w' := by
 have HT := Aside0.mk hT
 clear hT
 have hu31 := Tryd.underlying31
 have HB := Aside0.mk (Below.refl w.heap.size w)
 have H : ((impl_isCode.f a0).bind fun t441 => (if t441 = true then (impl_DecodeAll.j0 k a0 a1 (decide ((a1.size : Int) > 1000))) else (impl_DecodeAll.j0 k a0 a1 true))) = some (r1, r2, r3) := h
 clear h
 have HC3 := Aside0.mk H
 clear H
 go_enter Tryd.func20, Tryd.ntmps20
 go_upto_region 1 with (fail)
 go_cut [19] (fun v19 wc => ∃ (kq : Nat) (x19_2 : Bool), v19 = .bool x19_2 ∧ Aside0 (impl_DecodeAll.j0 kq a0 a1 x19_2 = some (r1, r2, r3)) ∧ Aside0 (kq ≤ k) ∧ Aside0 (Below w.heap.size w wc))
 case first =>
  have H := HC3.out
  clear HC3
  replace H := Option.bind_eq_some_iff.mp H
  obtain ⟨t441, A40, H⟩ := H
  replace H : (if t441 = true then (impl_DecodeAll.j0 k a0 a1 (decide ((a1.size : Int) > 1000))) else (impl_DecodeAll.j0 k a0 a1 true)) = some (r1, r2, r3) := H
  have A4 := Aside0.mk A40
  clear A40
  by_cases c5 : t441 = true
  ·subst c5
   have H1 : (impl_DecodeAll.j0 k a0 a1 (decide ((a1.size : Int) > 1000))) = some (r1, r2, r3) := by rw [if_pos rfl] at H; exact H
   clear H
   have H := H1
   clear H1
   have H' := Aside0.mk H
   clear H
   go_wp2_with (first | ((with_reducible refine gate_callee (f := 33) rfl ?_); refine goesL_ (some 13) rfl rfl Tryd.func33 (by kernel_rfl) rfl #[.int .i64 a0] rfl (by (try simp only [List.map_toArray, List.map_cons, List.map_nil]); first | done | rfl | (simp only [List.length_drop, List.length_take]; rfl)) ?_; (with_reducible refine (impl_isCode.calls a0 true _ A4.out).mono ?_); rintro e w' ⟨rfl, ⟨nd, rfl⟩⟩; refine ⟨_, rfl, ?_⟩))
   go_meet
   case rel => exact ⟨_, (decide ((a1.size : Int) > 1000)), (by first | rfl | (simp; done) | (simp [*]; done)), H', ⟨by first | omega | exact Nat.le_refl _⟩, ⟨by repeat (first | (with_reducible first | exact HB.out | apply below_alloc | apply pw_below_drewN | apply below_drew1) | exact HB.out)⟩⟩
  ·replace c5 := Bool.eq_false_iff.mpr c5
   subst c5
   have H1 : (impl_DecodeAll.j0 k a0 a1 true) = some (r1, r2, r3) := by rw [if_neg (show ¬ (false = true) by decide)] at H; exact H
   clear H
   have H := H1
   clear H1
   have H' := Aside0.mk H
   clear H
   go_wp2_with (first | ((with_reducible refine gate_callee (f := 33) rfl ?_); refine goesL_ (some 13) rfl rfl Tryd.func33 (by kernel_rfl) rfl #[.int .i64 a0] rfl (by (try simp only [List.map_toArray, List.map_cons, List.map_nil]); first | done | rfl | (simp only [List.length_drop, List.length_take]; rfl)) ?_; (with_reducible refine (impl_isCode.calls a0 false _ A4.out).mono ?_); rintro e w' ⟨rfl, ⟨nd, rfl⟩⟩; refine ⟨_, rfl, ?_⟩))
   go_meet
   case rel => exact ⟨_, (true), (by first | rfl | (simp; done) | (simp [*]; done)), H', ⟨by first | omega | exact Nat.le_refl _⟩, ⟨by repeat (first | (with_reducible first | exact HB.out | apply below_alloc | apply pw_below_drewN | apply below_drew1) | exact HB.out)⟩⟩
 case rest =>
  clear HC3
  try clear c2
  try clear p2
  try clear c3
  try clear c5
  obtain ⟨kq, x19_2, rfl, HA, HJ2, HB⟩ := hcut
  cases kq with
  | zero => exact absurd HA.out (by simp [impl_DecodeAll.j0])
  | succ kj2 =>
   have H := HA.out
   clear HA
   simp only [impl_DecodeAll.j0] at H
   by_cases c6 : x19_2 = true
   ·subst c6
    have H1 : (some (([] : List Int), ([] : List Int), false)) = some (r1, r2, r3) := by rw [if_pos rfl] at H; exact H
    clear H
    have H := H1
    clear H1
    simp only [Option.some.injEq, Prod.mk.injEq] at H
    obtain ⟨rfl, rfl, rfl⟩ := H
    go_wp2
    go_ret3
    exact ⟨_, _, by first | rfl | (simp [errW_none, errW_some] <;> rfl) | (simp [*, errW_none, errW_some] <;> rfl), by first | exact Kd.R_nil _ _ _ _ _ | exact Kd.N_nil _ _ _ _ _ | exact Kd.V_nil _ _ _ _ _ | exact Kd.Q_nil _ _ _ _ _ | exact Kd.S_nil _ _ _ _ _, by first | exact Kd.R_nil _ _ _ _ _ | exact Kd.N_nil _ _ _ _ _ | exact Kd.V_nil _ _ _ _ _ | exact Kd.Q_nil _ _ _ _ _ | exact Kd.S_nil _ _ _ _ _, by repeat (first | (with_reducible first | exact HB.out | apply below_alloc | apply pw_below_drewN | apply below_drew1) | exact HB.out)⟩
   ·replace c6 := Bool.eq_false_iff.mpr c6
    subst c6
    have H1 : ((impl_Decoder_feed.f kj2 a0 0 0 (⟨#[]⟩ : ByteArray) a1).bind fun bt443 => ((impl_Decoder_flush.f kj2 bt443.2.2.1 bt443.2.2.2.1 bt443.2.2.2.2.1 bt443.2.2.2.2.2).bind fun bt453 => (if bt443.1.length + bt453.1.length < 17592186044416 then (if bt443.2.1.length + bt453.2.1.length < 17592186044416 then (some ((bt443.1 ++ bt453.1), (bt443.2.1 ++ bt453.2.1), true)) else (none)) else (none)))) = some (r1, r2, r3) := by rw [if_neg (show ¬ (false = true) by decide)] at H; exact H
    clear H
    have H := H1
    clear H1
    replace H := Option.bind_eq_some_iff.mp H
    obtain ⟨⟨t443, t446, t449, t450, t451, t452⟩, A70, H⟩ := H
    replace H : ((impl_Decoder_flush.f kj2 t449 t450 t451 t452).bind fun bt453 => (if t443.length + bt453.1.length < 17592186044416 then (if t446.length + bt453.2.1.length < 17592186044416 then (some ((t443 ++ bt453.1), (t446 ++ bt453.2.1), true)) else (none)) else (none))) = some (r1, r2, r3) := H
    have A7 := Aside0.mk A70
    clear A70
    replace H := Option.bind_eq_some_iff.mp H
    obtain ⟨⟨t453, t456, t459, t460, t461, t462⟩, A80, H⟩ := H
    replace H : (if t443.length + t453.length < 17592186044416 then (if t446.length + t456.length < 17592186044416 then (some ((t443 ++ t453), (t446 ++ t456), true)) else (none)) else (none)) = some (r1, r2, r3) := H
    have A8 := Aside0.mk A80
    clear A80
    by_cases c9 : t443.length + t453.length < 17592186044416
    ·rw [if_pos c9] at H
     have LMc9 := Aside0.mk c9
     clear c9
     obtain ⟨y463, hy463⟩ : ∃ y_ : List Int, y_ = (t443 ++ t453) := ⟨_, rfl⟩
     replace H : (if t446.length + t456.length < 17592186044416 then (some (y463, (t446 ++ t456), true)) else (none)) = some (r1, r2, r3) := by first | (rw [hy463]; with_reducible exact H) | (have H2_ := (Option.bind_some _ _).symm.trans H; rw [hy463]; with_reducible exact H2_) | (have H2_ := (Option.bind_some _ _).symm.trans H; with_reducible exact H2_) | with_reducible exact H | (rw [hy463]; exact H) | exact H
     have Ny463 := Aside0.mk hy463
     clear hy463
     by_cases c10 : t446.length + t456.length < 17592186044416
     ·rw [if_pos c10] at H
      have LMc10 := Aside0.mk c10
      clear c10
      obtain ⟨y466, hy466⟩ : ∃ y_ : List Int, y_ = (t446 ++ t456) := ⟨_, rfl⟩
      replace H : (some (y463, y466, true)) = some (r1, r2, r3) := by first | (rw [hy466]; with_reducible exact H) | (have H2_ := (Option.bind_some _ _).symm.trans H; rw [hy466]; with_reducible exact H2_) | (have H2_ := (Option.bind_some _ _).symm.trans H; with_reducible exact H2_) | with_reducible exact H | (rw [hy466]; exact H) | exact H
      have Ny466 := Aside0.mk hy466
      clear hy466
      simp only [Option.some.injEq, Prod.mk.injEq] at H
      obtain ⟨rfl, rfl, rfl⟩ := H
      go_wp2_with (first | ((with_reducible refine gate_dst (N := 7) rfl ?_); (try (refine gate_guard (by rfl) ?_; dsimp only)); refine box_event ?hg (N := 7) ?hd (cs := #[.int .i64 0, .int .i64 0, .int .i64 0, .string (⟨#[]⟩ : ByteArray)]) (t := 31) ?hr ?_; (case hd => rfl); (case hg => rfl); (case hr => first | (go_simp; done) | (go_simp; rfl)); intro gb442 hg w11 hbox hb; have n0_ := Aside0.mk (below_step (by repeat (first | (with_reducible first | exact HB.out | apply below_alloc | apply pw_below_drewN | apply below_drew1) | exact HB.out)) hb); have n1_ := Aside0.mk (show IsS31 w w11 gb442 0 0 0 (⟨#[]⟩ : ByteArray) from ⟨hbox, (by rw [hg]; exact (below_size (by repeat (first | (with_reducible first | exact HB.out | apply below_alloc | apply pw_below_drewN | apply below_drew1) | exact HB.out))))⟩); clear HB; have HB := n0_; have HI442 := n1_; clear n0_ n1_; clear hb hbox hg; obtain ⟨HGz12, hgz12⟩ := HI442.out; have hcz12_0 := cellS31_0 HGz12; have hcz12_1 := cellS31_1 HGz12; have hcz12_2 := cellS31_2 HGz12; have hcz12_3 := cellS31_3 HGz12; have hfz12_0 := blk_frozen HGz12 0; have hfz12_1 := blk_frozen HGz12 1; have hfz12_2 := blk_frozen HGz12 2; have hfz12_3 := blk_frozen HGz12 3; clear HGz12 hgz12) | ((with_reducible refine gate_callee (f := 30) rfl ?_); refine goesL_ (some 24) rfl rfl Tryd.func30 (by kernel_rfl) rfl #[.pointer (some ⟨gb442, 0, none⟩), .string a1] rfl (by (try simp only [List.map_toArray, List.map_cons, List.map_nil]); first | done | rfl | (simp only [List.length_drop, List.length_take]; rfl)) ?_; (with_reducible refine (impl_Decoder_feed.calls kj2 gb442 a0 0 0 (⟨#[]⟩ : ByteArray) a1 t443 t446 t449 t450 t451 t452 w _ ?side1 ?side2 (by first | exact HT.out | (refine Utf8Tabs_below HT.out ?_; repeat (first | exact HB.out | exact Below.refl _ _ | apply below_alloc | apply pw_below_drewN | apply below_drew1 | apply below_drew | refine below_set ?_ (Aside0.out (by assumption))))) A7.out).mono ?_); (case side1 => repeat (first | (with_reducible first | exact HI442.out | apply IsS31.alloc | apply IsS31.drewN | apply IsS31.drew | apply IsS31.set_0 | apply IsS31.set_1 | apply IsS31.set_2 | apply IsS31.set_3) | exact HI442.out)); (case side2 => repeat (first | (with_reducible first | exact HB.out | apply below_alloc | apply pw_below_drewN | apply below_drew1 | refine below_set ?_ (IsS31.ge HI442.out)) | exact HB.out)); rintro e w13 ⟨v444, v447, rfl, ho0, ho1, hi, hb, hk⟩; refine ⟨_, rfl, ?_⟩; have n0_ := Aside0.mk (Kd.R_lower ho0 (below_size (by repeat (first | (with_reducible first | exact HB.out | apply below_alloc | apply pw_below_drewN | apply below_drew1 | refine below_set ?_ (IsS31.ge HI442.out)) | exact HB.out)))); have n1_ := Aside0.mk (Kd.R_lower ho1 (below_size (by repeat (first | (with_reducible first | exact HB.out | apply below_alloc | apply pw_below_drewN | apply below_drew1 | refine below_set ?_ (IsS31.ge HI442.out)) | exact HB.out)))); have n2_ := Aside0.mk (hb); have n3_ := Aside0.mk (hi); clear HB; clear HI442; have HO445 := n0_; have HO448 := n1_; have HB := n2_; have HI442 := n3_; clear n0_ n1_ n2_ n3_; (try clear hb); (try clear hb2); (try clear hk); (try clear hi); (try clear ho0); (try clear ho1)) | ((with_reducible refine gate_callee (f := 34) rfl ?_); refine goesL_ (some 28) rfl rfl Tryd.func34 (by kernel_rfl) rfl #[.pointer (some ⟨gb442, 0, none⟩)] rfl (by (try simp only [List.map_toArray, List.map_cons, List.map_nil]); first | done | rfl | (simp only [List.length_drop, List.length_take]; rfl)) ?_; (with_reducible refine (impl_Decoder_flush.calls kj2 gb442 t449 t450 t451 t452 t453 t456 t459 t460 t461 t462 w _ ?side1 ?side2 A8.out).mono ?_); (case side1 => repeat (first | (with_reducible first | exact HI442.out | apply IsS31.alloc | apply IsS31.drewN | apply IsS31.drew | apply IsS31.set_0 | apply IsS31.set_1 | apply IsS31.set_2 | apply IsS31.set_3) | exact HI442.out)); (case side2 => repeat (first | (with_reducible first | exact HB.out | apply below_alloc | apply pw_below_drewN | apply below_drew1 | refine below_set ?_ (IsS31.ge HI442.out)) | exact HB.out)); rintro e w14 ⟨v454, v457, rfl, ho0, ho1, hi, hb, hk⟩; refine ⟨_, rfl, ?_⟩; have n0_ := Aside0.mk (Kd.R_mono (Kd.R_told (Kd.R_told (Kd.R_oldK (IsS31.apart (show IsS31 w _ gb442 t449 t450 t451 t452 from by repeat (first | (with_reducible first | exact HI442.out | apply IsS31.alloc | apply IsS31.drewN | apply IsS31.drew | apply IsS31.set_0 | apply IsS31.set_1 | apply IsS31.set_2 | apply IsS31.set_3) | exact HI442.out)) (by (with_reducible repeat (first | apply Kd.R_alloc | apply Kd.R_drewN | apply Kd.R_drew)); exact HO445.out) (by decide)) hk) (Kd.R_base ho0)) (Kd.R_base ho1)) (fun _ h_ => h_.1)); have n1_ := Aside0.mk (Kd.R_mono (Kd.R_told (Kd.R_told (Kd.R_oldK (IsS31.apart (show IsS31 w _ gb442 t449 t450 t451 t452 from by repeat (first | (with_reducible first | exact HI442.out | apply IsS31.alloc | apply IsS31.drewN | apply IsS31.drew | apply IsS31.set_0 | apply IsS31.set_1 | apply IsS31.set_2 | apply IsS31.set_3) | exact HI442.out)) (by (with_reducible repeat (first | apply Kd.R_alloc | apply Kd.R_drewN | apply Kd.R_drew)); exact HO448.out) (by decide)) hk) (Kd.R_base ho0)) (Kd.R_base ho1)) (fun _ h_ => h_.1)); have n2_ := Aside0.mk (Kd.R_lower (Kd.R_new' (Kd.R_new' ho0 (Kd.R_lt (by (with_reducible repeat (first | apply Kd.R_alloc | apply Kd.R_drewN | apply Kd.R_drew)); exact HO445.out))) (Kd.R_lt (by (with_reducible repeat (first | apply Kd.R_alloc | apply Kd.R_drewN | apply Kd.R_drew)); exact HO448.out))) (below_size (by repeat (first | (with_reducible first | exact HB.out | apply below_alloc | apply pw_below_drewN | apply below_drew1 | refine below_set ?_ (IsS31.ge HI442.out)) | exact HB.out)))); have n3_ := Aside0.mk (Kd.R_lower (Kd.R_new' (Kd.R_new' ho1 (Kd.R_lt (by (with_reducible repeat (first | apply Kd.R_alloc | apply Kd.R_drewN | apply Kd.R_drew)); exact HO445.out))) (Kd.R_lt (by (with_reducible repeat (first | apply Kd.R_alloc | apply Kd.R_drewN | apply Kd.R_drew)); exact HO448.out))) (below_size (by repeat (first | (with_reducible first | exact HB.out | apply below_alloc | apply pw_below_drewN | apply below_drew1 | refine below_set ?_ (IsS31.ge HI442.out)) | exact HB.out)))); have n4_ := Aside0.mk (hb); have n5_ := Aside0.mk (hi); clear HO445; clear HO448; clear HB; clear HI442; have HO445 := n0_; have HO448 := n1_; have HO455 := n2_; have HO458 := n3_; have HB := n4_; have HI442 := n5_; clear n0_ n1_ n2_ n3_ n4_ n5_; (try clear hb); (try clear hb2); (try clear hk); (try clear hi); (try clear ho0); (try clear ho1); obtain ⟨Ao16, co16, eo16⟩ := Kd.R_slice HO455.out; subst eo16) | ((with_reducible refine gate_builtin (b := .append) (xs := #[.tmp 31, .tmp 32]) rfl ?_); (try (refine gate_guard (by rfl) ?_; dsimp only)); at_builtin; refine Kd.R_append_rows (Kd.int .i64) (w0 := w) w.heap.size rfl (.tmp 31) (.tmp 32) 24 3 (.int .i64 0) 8 rfl Tryd.underlying24 info3 rfl (by decide) (by omega) v444 t443 t453 _ _ _ (fun k_ => some k_ ≠ (v447 : Value).ownBlock ∧ some k_ ≠ (.slice Ao16 t453.length co16 : Value).ownBlock ∧ some k_ ≠ (v457 : Value).ownBlock) (fun _ => False) rfl rfl ?aO ?aR (fun _ _ h => h) (fun _ h => h.elim) ?aF ?aB ?aS ?aL ?_; (case aR => repeat (first | exact (Kd.R_reads' HO455.out).2.2 | (with_reducible refine Kd.C_alloc ?_ _) | (with_reducible refine Kd.C_drewN ?_ _) | (with_reducible refine Kd.C_drew ?_))); (case aB => exact (by repeat (first | (with_reducible first | exact HB.out | apply below_alloc | apply pw_below_drewN | apply below_drew1 | refine below_set ?_ (IsS31.ge HI442.out)) | exact HB.out))); (case aF => exact (fun k_ hk => ⟨Kd.fresh' (Kd.R_lt (by (with_reducible repeat (first | apply Kd.R_alloc | apply Kd.R_drewN | apply Kd.R_drew)); exact HO448.out)) k_ hk, Kd.fresh' (Kd.R_lt (by (with_reducible repeat (first | apply Kd.R_alloc | apply Kd.R_drewN | apply Kd.R_drew)); exact HO455.out)) k_ hk, Kd.fresh' (Kd.R_lt (by (with_reducible repeat (first | apply Kd.R_alloc | apply Kd.R_drewN | apply Kd.R_drew)); exact HO458.out)) k_ hk⟩)); (case aO => exact (by (with_reducible repeat (first | apply Kd.R_alloc | apply Kd.R_drewN | apply Kd.R_drew)); exact Kd.R_mono HO445.out (fun _ hk => ⟨hk.1.1, ⟨hk.1.2, hk.2⟩⟩))); (case aS => exact (below_size (by repeat (first | (with_reducible first | exact HB.out | apply below_alloc | apply pw_below_drewN | apply below_drew1 | refine below_set ?_ (IsS31.ge HI442.out)) | exact HB.out)))); (case aL => have := LMc9.out; omega); intro v464 w15 ho hb hg hat; rw [← Ny463.out] at ho; have n0_ := Aside0.mk (IsS31.grown (by repeat (first | (with_reducible first | exact HI442.out | apply IsS31.alloc | apply IsS31.drewN | apply IsS31.drew | apply IsS31.set_0 | apply IsS31.set_1 | apply IsS31.set_2 | apply IsS31.set_3) | exact HI442.out)) hg (IsS31.own_ne HI442.out HO445.out (by decide))); have n1_ := Aside0.mk (Kd.R_after (ok := (fun k_ => some k_ ≠ (.slice Ao16 t453.length co16 : Value).ownBlock ∧ some k_ ≠ (v457 : Value).ownBlock)) (by (with_reducible repeat (first | apply Kd.R_alloc | apply Kd.R_drewN | apply Kd.R_drew)); exact Kd.R_mono HO448.out (fun _ hk => ⟨⟨hk.1.2, hk.2⟩, hk.1.1⟩)) hg hat); have n2_ := Aside0.mk (Kd.R_after (ok := (fun k_ => some k_ ≠ (v447 : Value).ownBlock ∧ some k_ ≠ (v457 : Value).ownBlock)) (by (with_reducible repeat (first | apply Kd.R_alloc | apply Kd.R_drewN | apply Kd.R_drew)); exact Kd.R_mono HO455.out (fun _ hk => ⟨⟨hk.2, hk.1.1⟩, hk.1.2⟩)) hg hat); have n3_ := Aside0.mk (Kd.R_after (ok := (fun k_ => some k_ ≠ (v447 : Value).ownBlock ∧ some k_ ≠ (.slice Ao16 t453.length co16 : Value).ownBlock)) (by (with_reducible repeat (first | apply Kd.R_alloc | apply Kd.R_drewN | apply Kd.R_drew)); exact Kd.R_mono HO458.out (fun _ hk => ⟨⟨hk.2, hk.1.1⟩, hk.1.2⟩)) hg hat); have n4_ := Aside0.mk (hb); have n5_ := Aside0.mk (ho); clear HI442; clear HO448; clear HO455; clear HO458; clear HB; clear HO445; have HI442 := n0_; have HO448 := n1_; have HO455 := n2_; have HO458 := n3_; have HB := n4_; have HO465 := n5_; clear n0_ n1_ n2_ n3_ n4_ n5_; clear ho hb hg hat; obtain ⟨Ao18, co18, eo18⟩ := Kd.R_slice HO458.out; subst eo18) | ((with_reducible refine gate_builtin (b := .append) (xs := #[.tmp 34, .tmp 35]) rfl ?_); (try (refine gate_guard (by rfl) ?_; dsimp only)); at_builtin; refine Kd.R_append_rows (Kd.int .i64) (w0 := w) w.heap.size rfl (.tmp 34) (.tmp 35) 24 3 (.int .i64 0) 8 rfl Tryd.underlying24 info3 rfl (by decide) (by omega) v447 t446 t456 _ _ _ (fun k_ => some k_ ≠ (.slice Ao16 t453.length co16 : Value).ownBlock ∧ some k_ ≠ (.slice Ao18 t456.length co18 : Value).ownBlock ∧ some k_ ≠ (v464 : Value).ownBlock) (fun _ => False) rfl rfl ?aO ?aR (fun _ _ h => h) (fun _ h => h.elim) ?aF ?aB ?aS ?aL ?_; (case aR => repeat (first | exact (Kd.R_reads' HO458.out).2.2 | (with_reducible refine Kd.C_alloc ?_ _) | (with_reducible refine Kd.C_drewN ?_ _) | (with_reducible refine Kd.C_drew ?_))); (case aB => exact (by repeat (first | (with_reducible first | exact HB.out | apply below_alloc | apply pw_below_drewN | apply below_drew1 | refine below_set ?_ (IsS31.ge HI442.out)) | exact HB.out))); (case aF => exact (fun k_ hk => ⟨Kd.fresh' (Kd.R_lt (by (with_reducible repeat (first | apply Kd.R_alloc | apply Kd.R_drewN | apply Kd.R_drew)); exact HO455.out)) k_ hk, Kd.fresh' (Kd.R_lt (by (with_reducible repeat (first | apply Kd.R_alloc | apply Kd.R_drewN | apply Kd.R_drew)); exact HO458.out)) k_ hk, Kd.fresh' (Kd.R_lt (by (with_reducible repeat (first | apply Kd.R_alloc | apply Kd.R_drewN | apply Kd.R_drew)); exact HO465.out)) k_ hk⟩)); (case aO => exact (by (with_reducible repeat (first | apply Kd.R_alloc | apply Kd.R_drewN | apply Kd.R_drew)); exact Kd.R_mono HO448.out (fun _ hk => ⟨hk.1.1, ⟨hk.1.2, hk.2⟩⟩))); (case aS => exact (below_size (by repeat (first | (with_reducible first | exact HB.out | apply below_alloc | apply pw_below_drewN | apply below_drew1 | refine below_set ?_ (IsS31.ge HI442.out)) | exact HB.out)))); (case aL => have := LMc10.out; omega); intro v467 w17 ho hb hg hat; rw [← Ny466.out] at ho; have n0_ := Aside0.mk (IsS31.grown (by repeat (first | (with_reducible first | exact HI442.out | apply IsS31.alloc | apply IsS31.drewN | apply IsS31.drew | apply IsS31.set_0 | apply IsS31.set_1 | apply IsS31.set_2 | apply IsS31.set_3) | exact HI442.out)) hg (IsS31.own_ne HI442.out HO448.out (by decide))); have n1_ := Aside0.mk (Kd.R_after (ok := (fun k_ => some k_ ≠ (.slice Ao18 t456.length co18 : Value).ownBlock ∧ some k_ ≠ (v464 : Value).ownBlock)) (by (with_reducible repeat (first | apply Kd.R_alloc | apply Kd.R_drewN | apply Kd.R_drew)); exact Kd.R_mono HO455.out (fun _ hk => ⟨⟨hk.1.2, hk.2⟩, hk.1.1⟩)) hg hat); have n2_ := Aside0.mk (Kd.R_after (ok := (fun k_ => some k_ ≠ (.slice Ao16 t453.length co16 : Value).ownBlock ∧ some k_ ≠ (v464 : Value).ownBlock)) (by (with_reducible repeat (first | apply Kd.R_alloc | apply Kd.R_drewN | apply Kd.R_drew)); exact Kd.R_mono HO458.out (fun _ hk => ⟨⟨hk.1.2, hk.2⟩, hk.1.1⟩)) hg hat); have n3_ := Aside0.mk (Kd.R_after (ok := (fun k_ => some k_ ≠ (.slice Ao16 t453.length co16 : Value).ownBlock ∧ some k_ ≠ (.slice Ao18 t456.length co18 : Value).ownBlock)) (by (with_reducible repeat (first | apply Kd.R_alloc | apply Kd.R_drewN | apply Kd.R_drew)); exact Kd.R_mono HO465.out (fun _ hk => ⟨⟨hk.2.1, hk.2.2⟩, hk.1⟩)) hg hat); have n4_ := Aside0.mk (hb); have n5_ := Aside0.mk (ho); clear HI442; clear HO455; clear HO458; clear HO465; clear HB; clear HO448; have HI442 := n0_; have HO455 := n1_; have HO458 := n2_; have HO465 := n3_; have HB := n4_; have HO468 := n5_; clear n0_ n1_ n2_ n3_ n4_ n5_; clear ho hb hg hat))
      go_ret3
      exact ⟨_, _, by first | rfl | (simp [errW_none, errW_some] <;> rfl) | (simp [*, errW_none, errW_some] <;> rfl), by (with_reducible repeat (first | apply Kd.R_alloc | apply Kd.R_drewN | apply Kd.R_drew)); exact Kd.R_mono HO465.out (fun _ hk => hk.2), by (with_reducible repeat (first | apply Kd.R_alloc | apply Kd.R_drewN | apply Kd.R_drew)); exact Kd.R_mono HO468.out (fun _ hk => hk.2.2), by repeat (first | (with_reducible first | exact HB.out | apply below_alloc | apply pw_below_drewN | apply below_drew1 | refine below_set ?_ (IsS31.ge HI442.out)) | exact HB.out)⟩
     ·rw [if_neg c10] at H
      exact absurd H (by simp)
    ·rw [if_neg c9] at H
     exact absurd H (by simp)

def laws_FnExactDecodeAll.f (k : Nat) (a0 : Int) (a1 : ByteArray) : Option Bool :=
  if (a1.size : Int) > 1048576 then some true else (spec_DecodeAll.f k a0 a1).bind fun t1 => (impl_DecodeAll.f k a0 a1).bind fun t2 => (laws_eqIntS.f k t2.1 t1.1).bind fun t3 => if t3 = true then (laws_eqIntS.f k t2.2.1 t1.2.1).bind fun t4 => if t4 = true then if t2.2.2 = t1.2.2 then (laws_markIntS.f k t2.1 1).bind fun t5 => (laws_markIntS.f k t2.2.1 t5.1).bind fun t6 => (laws_heldIntS.f k t5.2 1).bind fun t7 => if t7 < 0 then none else (laws_heldIntS.f k t6.2 t7).bind fun t8 => if t8 < 0 then none else if t8 = t6.1 then (impl_DecodeAll.f k a0 a1).bind fun t9 => (laws_eqIntS.f k t9.1 t1.1).bind fun t10 => if t10 = true then (laws_eqIntS.f k t9.2.1 t1.2.1).bind fun t11 => if t11 = true then if t9.2.2 = t1.2.2 then (laws_heldIntS.f k t5.2 1).bind fun t12 => if t12 < 0 then none else (laws_heldIntS.f k t6.2 t12).bind fun t13 => if t13 < 0 then none else if t13 = t6.1 then some true else none else none else none else none else none else none else none else none
set_option maxHeartbeats 8000000 in
set_option maxRecDepth 100000 in
theorem laws_FnExactDecodeAll.calls (k : Nat) (a0 : Int) (a1 : ByteArray) (r : Bool) (w : World)  (hT : Lib.Utf8Tabs 0 1 w) (h : laws_FnExactDecodeAll.f k a0 a1 = some r) :
    Calls Tryd.prog 5 #[.int .i64 a0, .string a1] w fun e w' => e = .returned (.bool r) ∧ Below w.heap.size w w' := by
  have HT := Aside0.mk hT
  clear hT
  unfold laws_FnExactDecodeAll.f at h
  have HB0 := Aside0.mk (Below.refl w.heap.size w)
  by_cases cb : (a1.size : Int) > 1048576
  · rw [if_pos cb] at h
    obtain rfl := Option.some.inj h
    have cb0 : decide (1048576 < (a1.size : Int)) = true := decide_eq_true cb
    have cb1 : decide (1048576 < a1.size) = true := decide_eq_true (by omega)
    clear cb
    go_enter Tryd.func5, Tryd.ntmps5
    go_wp2
    go_ret
    exact ⟨by first | rfl | (simp; done) | (simp [*]; done), (by repeat (first | (with_reducible first | exact HB0.out | apply below_alloc | apply pw_below_drewN | apply below_drew1) | exact HB0.out))⟩
  rw [if_neg cb] at h
  have cb0_12 : decide (1048576 < (a1.size : Int)) = false := decide_eq_false cb
  have cb1_12 : decide (1048576 < a1.size) = false := decide_eq_false (by omega)
  clear cb
  obtain ⟨⟨r1_r1, r1_r2, r1_r3⟩, hh, h⟩ := Option.bind_eq_some_iff.mp h
  have A1 := Aside0.mk hh
  clear hh
  dsimp only at h
  obtain ⟨⟨r2_r1, r2_r2, r2_r3⟩, hh, h⟩ := Option.bind_eq_some_iff.mp h
  have A2 := Aside0.mk hh
  clear hh
  dsimp only at h
  obtain ⟨r3_r, hh, h⟩ := Option.bind_eq_some_iff.mp h
  have A3 := Aside0.mk hh
  clear hh
  by_cases cb : r3_r = true
  case neg => rw [if_neg cb] at h; cases h
  rw [if_pos cb] at h
  subst cb
  obtain ⟨r4_r, hh, h⟩ := Option.bind_eq_some_iff.mp h
  have A4 := Aside0.mk hh
  clear hh
  by_cases cb : r4_r = true
  case neg => rw [if_neg cb] at h; cases h
  rw [if_pos cb] at h
  subst cb
  by_cases cb : r2_r3 = r1_r3
  case neg => rw [if_neg cb] at h; cases h
  rw [if_pos cb] at h
  have ce38 : (r2_r3 != r1_r3) = false := by rw [cb]; exact bne_self_eq_false _
  have cf38 : (r2_r3 == r1_r3) = true := by rw [cb]; exact beq_self_eq_true _
  clear cb
  obtain ⟨⟨r5_r1, r5_r2⟩, hh, h⟩ := Option.bind_eq_some_iff.mp h
  have A5 := Aside0.mk hh
  clear hh
  dsimp only at h
  obtain ⟨⟨r6_r1, r6_r2⟩, hh, h⟩ := Option.bind_eq_some_iff.mp h
  have A6 := Aside0.mk hh
  clear hh
  dsimp only at h
  obtain ⟨r7_r, hh, h⟩ := Option.bind_eq_some_iff.mp h
  have A7 := Aside0.mk hh
  clear hh
  by_cases cb : r7_r < 0
  · rw [if_pos cb] at h; cases h
  rw [if_neg cb] at h
  have cn55 : decide (r7_r < 0) = false := decide_eq_false cb
  clear cb
  obtain ⟨r8_r, hh, h⟩ := Option.bind_eq_some_iff.mp h
  have A8 := Aside0.mk hh
  clear hh
  by_cases cb : r8_r < 0
  · rw [if_pos cb] at h; cases h
  rw [if_neg cb] at h
  have cn63 : decide (r8_r < 0) = false := decide_eq_false cb
  clear cb
  by_cases cb : r8_r = r6_r1
  case neg => rw [if_neg cb] at h; cases h
  rw [if_pos cb] at h
  have ce68 : (r8_r != r6_r1) = false := by rw [cb]; exact bne_self_eq_false _
  have cf68 : (r8_r == r6_r1) = true := by rw [cb]; exact beq_self_eq_true _
  clear cb
  obtain ⟨⟨r9_r1, r9_r2, r9_r3⟩, hh, h⟩ := Option.bind_eq_some_iff.mp h
  have A9 := Aside0.mk hh
  clear hh
  dsimp only at h
  obtain ⟨r10_r, hh, h⟩ := Option.bind_eq_some_iff.mp h
  have A10 := Aside0.mk hh
  clear hh
  by_cases cb : r10_r = true
  case neg => rw [if_neg cb] at h; cases h
  rw [if_pos cb] at h
  subst cb
  obtain ⟨r11_r, hh, h⟩ := Option.bind_eq_some_iff.mp h
  have A11 := Aside0.mk hh
  clear hh
  by_cases cb : r11_r = true
  case neg => rw [if_neg cb] at h; cases h
  rw [if_pos cb] at h
  subst cb
  by_cases cb : r9_r3 = r1_r3
  case neg => rw [if_neg cb] at h; cases h
  rw [if_pos cb] at h
  have ce92 : (r9_r3 != r1_r3) = false := by rw [cb]; exact bne_self_eq_false _
  have cf92 : (r9_r3 == r1_r3) = true := by rw [cb]; exact beq_self_eq_true _
  clear cb
  obtain ⟨r12_r, hh, h⟩ := Option.bind_eq_some_iff.mp h
  have A12 := Aside0.mk hh
  clear hh
  by_cases cb : r12_r < 0
  · rw [if_pos cb] at h; cases h
  rw [if_neg cb] at h
  have cn101 : decide (r12_r < 0) = false := decide_eq_false cb
  clear cb
  obtain ⟨r13_r, hh, h⟩ := Option.bind_eq_some_iff.mp h
  have A13 := Aside0.mk hh
  clear hh
  by_cases cb : r13_r < 0
  · rw [if_pos cb] at h; cases h
  rw [if_neg cb] at h
  have cn109 : decide (r13_r < 0) = false := decide_eq_false cb
  clear cb
  by_cases cb : r13_r = r6_r1
  case neg => rw [if_neg cb] at h; cases h
  rw [if_pos cb] at h
  have ce114 : (r13_r != r6_r1) = false := by rw [cb]; exact bne_self_eq_false _
  have cf114 : (r13_r == r6_r1) = true := by rw [cb]; exact beq_self_eq_true _
  clear cb
  obtain rfl := Option.some.inj h
  clear h
  go_enter Tryd.func5, Tryd.ntmps5
  go_wp2_with (first
    | (go_at_call 19; (with_reducible refine (spec_DecodeAll.calls k a0 a1 r1_r1 r1_r2 r1_r3 _ A1.out).mono ?_); rintro e w1 ⟨u1_0, u1_1, rfl, ho0, ho1, hb⟩; have HB1 := Aside0.mk (below_step (by repeat (first | (with_reducible first | exact HB0.out | apply below_alloc | apply pw_below_drewN | apply below_drew1) | exact HB0.out)) hb); have LE1 := Aside0.mk (below_size hb); obtain ⟨Au1_0, cu1_0, qu1_0⟩ := Kd.R_slice ho0; subst qu1_0; obtain ⟨Au1_1, cu1_1, qu1_1⟩ := Kd.R_slice ho1; subst qu1_1; have HOu1_0 := Aside0.mk (Kd.R_lower (R_rng ho0) (below_size (by repeat (first | (with_reducible first | exact HB0.out | apply below_alloc | apply pw_below_drewN | apply below_drew1) | exact HB0.out)))); have HOu1_1 := Aside0.mk (Kd.R_lower (R_rng ho1) (below_size (by repeat (first | (with_reducible first | exact HB0.out | apply below_alloc | apply pw_below_drewN | apply below_drew1) | exact HB0.out)))))
    | (go_at_call 20; (with_reducible refine (impl_DecodeAll.calls k a0 a1 r2_r1 r2_r2 r2_r3 _ (Utf8Tabs_below HT.out (by repeat (first | (with_reducible first | exact HB1.out | apply below_alloc | apply pw_below_drewN | apply below_drew1) | exact HB1.out))) A2.out).mono ?_); rintro e w2 ⟨u2_0, u2_1, rfl, ho0, ho1, hb⟩; have HB2 := Aside0.mk (below_step (by repeat (first | (with_reducible first | exact HB1.out | apply below_alloc | apply pw_below_drewN | apply below_drew1) | exact HB1.out)) hb); have LE2 := Aside0.mk (below_size hb); obtain ⟨Au2_0, cu2_0, qu2_0⟩ := Kd.R_slice ho0; subst qu2_0; obtain ⟨Au2_1, cu2_1, qu2_1⟩ := Kd.R_slice ho1; subst qu2_1; have HOu2_0 := Aside0.mk (Kd.R_lower (R_rng ho0) (below_size (by repeat (first | (with_reducible first | exact HB1.out | apply below_alloc | apply pw_below_drewN | apply below_drew1) | exact HB1.out)))); have HOu2_1 := Aside0.mk (Kd.R_lower (R_rng ho1) (below_size (by repeat (first | (with_reducible first | exact HB1.out | apply below_alloc | apply pw_below_drewN | apply below_drew1) | exact HB1.out)))); have HOu1_0q1 := Aside0.mk (Kd.R_below (by (with_reducible repeat (first | apply Kd.R_alloc | apply Kd.R_drewN | apply Kd.R_drew)); exact HOu1_0.out) hb); have HOu1_1q1 := Aside0.mk (Kd.R_below (by (with_reducible repeat (first | apply Kd.R_alloc | apply Kd.R_drewN | apply Kd.R_drew)); exact HOu1_1.out) hb); clear HOu1_0 HOu1_1)
    | (go_at_call 16; (with_reducible refine (laws_eqIntS.calls k _ _ r2_r1 _ _ r1_r1 true _ ?s1 ?s2 ?s3 ?s4 A3.out).mono ?_); (case s1 => repeat (first | exact (Kd.R_reads' HOu2_0.out).2.2 | (with_reducible refine Kd.C_alloc ?_ _) | (with_reducible refine Kd.C_drewN ?_ _) | (with_reducible refine Kd.C_drew ?_))); (case s2 => exact (Kd.R_reads' HOu2_0.out).2.1); (case s3 => repeat (first | exact (Kd.R_reads' HOu1_0q1.out).2.2 | (with_reducible refine Kd.C_alloc ?_ _) | (with_reducible refine Kd.C_drewN ?_ _) | (with_reducible refine Kd.C_drew ?_))); (case s4 => exact (Kd.R_reads' HOu1_0q1.out).2.1); rintro e w3 ⟨rfl, hd⟩; have hb := hd.below; have HB3 := Aside0.mk (below_step (by repeat (first | (with_reducible first | exact HB2.out | apply below_alloc | apply pw_below_drewN | apply below_drew1) | exact HB2.out)) hb); have LE3 := Aside0.mk (below_size hb); have HOu1_0q2 := Aside0.mk (Kd.R_below (by (with_reducible repeat (first | apply Kd.R_alloc | apply Kd.R_drewN | apply Kd.R_drew)); exact HOu1_0q1.out) hb); have HOu1_1q2 := Aside0.mk (Kd.R_below (by (with_reducible repeat (first | apply Kd.R_alloc | apply Kd.R_drewN | apply Kd.R_drew)); exact HOu1_1q1.out) hb); have HOu2_0q1 := Aside0.mk (Kd.R_below (by (with_reducible repeat (first | apply Kd.R_alloc | apply Kd.R_drewN | apply Kd.R_drew)); exact HOu2_0.out) hb); have HOu2_1q1 := Aside0.mk (Kd.R_below (by (with_reducible repeat (first | apply Kd.R_alloc | apply Kd.R_drewN | apply Kd.R_drew)); exact HOu2_1.out) hb); clear HOu1_0q1 HOu1_1q1 HOu2_0 HOu2_1)
    | (go_at_call 16; (with_reducible refine (laws_eqIntS.calls k _ _ r2_r2 _ _ r1_r2 true _ ?s1 ?s2 ?s3 ?s4 A4.out).mono ?_); (case s1 => repeat (first | exact (Kd.R_reads' HOu2_1q1.out).2.2 | (with_reducible refine Kd.C_alloc ?_ _) | (with_reducible refine Kd.C_drewN ?_ _) | (with_reducible refine Kd.C_drew ?_))); (case s2 => exact (Kd.R_reads' HOu2_1q1.out).2.1); (case s3 => repeat (first | exact (Kd.R_reads' HOu1_1q2.out).2.2 | (with_reducible refine Kd.C_alloc ?_ _) | (with_reducible refine Kd.C_drewN ?_ _) | (with_reducible refine Kd.C_drew ?_))); (case s4 => exact (Kd.R_reads' HOu1_1q2.out).2.1); rintro e w4 ⟨rfl, hd⟩; have hb := hd.below; have HB4 := Aside0.mk (below_step (by repeat (first | (with_reducible first | exact HB3.out | apply below_alloc | apply pw_below_drewN | apply below_drew1) | exact HB3.out)) hb); have LE4 := Aside0.mk (below_size hb); have HOu1_0q3 := Aside0.mk (Kd.R_below (by (with_reducible repeat (first | apply Kd.R_alloc | apply Kd.R_drewN | apply Kd.R_drew)); exact HOu1_0q2.out) hb); have HOu1_1q3 := Aside0.mk (Kd.R_below (by (with_reducible repeat (first | apply Kd.R_alloc | apply Kd.R_drewN | apply Kd.R_drew)); exact HOu1_1q2.out) hb); have HOu2_0q2 := Aside0.mk (Kd.R_below (by (with_reducible repeat (first | apply Kd.R_alloc | apply Kd.R_drewN | apply Kd.R_drew)); exact HOu2_0q1.out) hb); have HOu2_1q2 := Aside0.mk (Kd.R_below (by (with_reducible repeat (first | apply Kd.R_alloc | apply Kd.R_drewN | apply Kd.R_drew)); exact HOu2_1q1.out) hb); clear HOu1_0q2 HOu1_1q2 HOu2_0q1 HOu2_1q1)
    | (go_at_call 17; (with_reducible refine (laws_markIntS.calls k (fun k_ => some k_ = (.slice Au2_0 r2_r1.length cu2_0 : Value).ownBlock) (.slice Au2_0 r2_r1.length cu2_0) r2_r1 1 r5_r1 r5_r2 w _ ?s1 ?s2 A5.out).mono ?_); (case s1 => exact (by repeat (first | (with_reducible first | exact HB4.out | apply below_alloc | apply pw_below_drewN | apply below_drew1) | exact HB4.out))); (case s2 => exact Kd.R_tight rfl HOu2_0q2.out); rintro e w5 ⟨rfl, ho0, hb, hk⟩; have HB5 := Aside0.mk hb; have LE5 := Aside0.mk hk.1; have hkr : Kept _ w5 (fun k_ => w1.heap.size ≤ k_ ∧ k_ < w2.heap.size) := Kept.mono hk (fun k_ h_ => ((HOu2_0q2.out.1 k_ h_.symm).2)); have HOu1_0q4 := Aside0.mk (Kd.R_kept HOu1_0q3.out hkr (fun k_ a_ b_ => by have := a_.2.1; have := a_.2.2; have := b_.1; have := b_.2; have := LE1.out; have := LE2.out; omega)); have HOu1_1q4 := Aside0.mk (Kd.R_kept HOu1_1q3.out hkr (fun k_ a_ b_ => by have := a_.2.1; have := a_.2.2; have := b_.1; have := b_.2; have := LE1.out; have := LE2.out; omega)); have HOu2_1q3 := Aside0.mk (Kd.R_kept HOu2_1q2.out hk (fun k_ a_ b_ => a_.1 (by first | exact b_ | exact b_.trans ((show ∀ (A : Option Addr) (n m c : Nat), (Value.slice A n c).ownBlock = (Value.slice A m c).ownBlock from fun A _ _ _ => by cases A <;> rfl) _ _ _ _)))); have ho0r := Kd.R_mono (ok' := fun k_ => some k_ ≠ (.slice Au2_1 r2_r2.length cu2_1 : Value).ownBlock ∧ w1.heap.size ≤ k_ ∧ k_ < w2.heap.size) (Kd.R_tight rfl ho0) (fun k_ a_ => ⟨fun e_ => (HOu2_0q2.out.1 k_ a_.symm).1 (by first | exact e_ | exact e_.trans ((show ∀ (A : Option Addr) (n m c : Nat), (Value.slice A n c).ownBlock = (Value.slice A m c).ownBlock from fun A _ _ _ => by cases A <;> rfl) _ _ _ _)), (HOu2_0q2.out.1 k_ a_.symm).2⟩); have hl5_0 := (Kd.R_reads' ho0r).1; rw [hl5_0] at ho0r; (try rw [hl5_0]); have HOu2_0q2m := Aside0.mk ho0r; clear HOu1_0q3 HOu1_1q3 HOu2_1q2)
    | (go_at_call 17; (with_reducible refine (laws_markIntS.calls k (fun k_ => some k_ = (.slice Au2_1 r2_r2.length cu2_1 : Value).ownBlock) (.slice Au2_1 r2_r2.length cu2_1) r2_r2 r5_r1 r6_r1 r6_r2 w _ ?s1 ?s2 A6.out).mono ?_); (case s1 => exact (by repeat (first | (with_reducible first | exact HB5.out | apply below_alloc | apply pw_below_drewN | apply below_drew1) | exact HB5.out))); (case s2 => exact Kd.R_tight rfl HOu2_1q3.out); rintro e w6 ⟨rfl, ho0, hb, hk⟩; have HB6 := Aside0.mk hb; have LE6 := Aside0.mk hk.1; have hkr : Kept _ w6 (fun k_ => w1.heap.size ≤ k_ ∧ k_ < w2.heap.size) := Kept.mono hk (fun k_ h_ => ((HOu2_1q3.out.1 k_ h_.symm).2)); have HOu1_0q5 := Aside0.mk (Kd.R_kept HOu1_0q4.out hkr (fun k_ a_ b_ => by have := a_.2.1; have := a_.2.2; have := b_.1; have := b_.2; have := LE1.out; have := LE2.out; omega)); have HOu1_1q5 := Aside0.mk (Kd.R_kept HOu1_1q4.out hkr (fun k_ a_ b_ => by have := a_.2.1; have := a_.2.2; have := b_.1; have := b_.2; have := LE1.out; have := LE2.out; omega)); have HOu2_0q2mq1 := Aside0.mk (Kd.R_kept HOu2_0q2m.out hk (fun k_ a_ b_ => a_.1 (by first | exact b_ | exact b_.trans ((show ∀ (A : Option Addr) (n m c : Nat), (Value.slice A n c).ownBlock = (Value.slice A m c).ownBlock from fun A _ _ _ => by cases A <;> rfl) _ _ _ _)))); have ho0r := Kd.R_mono (ok' := fun k_ => some k_ ≠ (.slice Au2_0 r5_r2.length cu2_0 : Value).ownBlock ∧ w1.heap.size ≤ k_ ∧ k_ < w2.heap.size) (Kd.R_tight rfl ho0) (fun k_ a_ => ⟨fun e_ => (HOu2_1q3.out.1 k_ a_.symm).1 (by first | exact e_ | exact e_.trans ((show ∀ (A : Option Addr) (n m c : Nat), (Value.slice A n c).ownBlock = (Value.slice A m c).ownBlock from fun A _ _ _ => by cases A <;> rfl) _ _ _ _)), (HOu2_1q3.out.1 k_ a_.symm).2⟩); have hl6_0 := (Kd.R_reads' ho0r).1; rw [hl6_0] at ho0r; (try rw [hl6_0]); have HOu2_1q3m := Aside0.mk ho0r; clear HOu1_0q4 HOu1_1q4 HOu2_0q2m)
    | (go_at_call 18; (with_reducible refine (laws_heldIntS.calls k _ _ r5_r2 1 r7_r _ ?s1 ?s2 A7.out).mono ?_); (case s1 => repeat (first | exact (Kd.R_reads' HOu2_0q2mq1.out).2.2 | (with_reducible refine Kd.C_alloc ?_ _) | (with_reducible refine Kd.C_drewN ?_ _) | (with_reducible refine Kd.C_drew ?_))); (case s2 => exact (Kd.R_reads' HOu2_0q2mq1.out).2.1); rintro e w7 ⟨rfl, hd⟩; have hb := hd.below; have HB7 := Aside0.mk (below_step (by repeat (first | (with_reducible first | exact HB6.out | apply below_alloc | apply pw_below_drewN | apply below_drew1) | exact HB6.out)) hb); have LE7 := Aside0.mk (below_size hb); have HOu1_0q6 := Aside0.mk (Kd.R_below (by (with_reducible repeat (first | apply Kd.R_alloc | apply Kd.R_drewN | apply Kd.R_drew)); exact HOu1_0q5.out) hb); have HOu1_1q6 := Aside0.mk (Kd.R_below (by (with_reducible repeat (first | apply Kd.R_alloc | apply Kd.R_drewN | apply Kd.R_drew)); exact HOu1_1q5.out) hb); have HOu2_0q2mq2 := Aside0.mk (Kd.R_below (by (with_reducible repeat (first | apply Kd.R_alloc | apply Kd.R_drewN | apply Kd.R_drew)); exact HOu2_0q2mq1.out) hb); have HOu2_1q3mq1 := Aside0.mk (Kd.R_below (by (with_reducible repeat (first | apply Kd.R_alloc | apply Kd.R_drewN | apply Kd.R_drew)); exact HOu2_1q3m.out) hb); clear HOu1_0q5 HOu1_1q5 HOu2_0q2mq1 HOu2_1q3m)
    | (go_at_call 18; (with_reducible refine (laws_heldIntS.calls k _ _ r6_r2 r7_r r8_r _ ?s1 ?s2 A8.out).mono ?_); (case s1 => repeat (first | exact (Kd.R_reads' HOu2_1q3mq1.out).2.2 | (with_reducible refine Kd.C_alloc ?_ _) | (with_reducible refine Kd.C_drewN ?_ _) | (with_reducible refine Kd.C_drew ?_))); (case s2 => exact (Kd.R_reads' HOu2_1q3mq1.out).2.1); rintro e w8 ⟨rfl, hd⟩; have hb := hd.below; have HB8 := Aside0.mk (below_step (by repeat (first | (with_reducible first | exact HB7.out | apply below_alloc | apply pw_below_drewN | apply below_drew1) | exact HB7.out)) hb); have LE8 := Aside0.mk (below_size hb); have HOu1_0q7 := Aside0.mk (Kd.R_below (by (with_reducible repeat (first | apply Kd.R_alloc | apply Kd.R_drewN | apply Kd.R_drew)); exact HOu1_0q6.out) hb); have HOu1_1q7 := Aside0.mk (Kd.R_below (by (with_reducible repeat (first | apply Kd.R_alloc | apply Kd.R_drewN | apply Kd.R_drew)); exact HOu1_1q6.out) hb); have HOu2_0q2mq3 := Aside0.mk (Kd.R_below (by (with_reducible repeat (first | apply Kd.R_alloc | apply Kd.R_drewN | apply Kd.R_drew)); exact HOu2_0q2mq2.out) hb); have HOu2_1q3mq2 := Aside0.mk (Kd.R_below (by (with_reducible repeat (first | apply Kd.R_alloc | apply Kd.R_drewN | apply Kd.R_drew)); exact HOu2_1q3mq1.out) hb); clear HOu1_0q6 HOu1_1q6 HOu2_0q2mq2 HOu2_1q3mq1)
    | (go_at_call 20; (with_reducible refine (impl_DecodeAll.calls k a0 a1 r9_r1 r9_r2 r9_r3 _ (Utf8Tabs_below HT.out (by repeat (first | (with_reducible first | exact HB8.out | apply below_alloc | apply pw_below_drewN | apply below_drew1) | exact HB8.out))) A9.out).mono ?_); rintro e w9 ⟨u9_0, u9_1, rfl, ho0, ho1, hb⟩; have HB9 := Aside0.mk (below_step (by repeat (first | (with_reducible first | exact HB8.out | apply below_alloc | apply pw_below_drewN | apply below_drew1) | exact HB8.out)) hb); have LE9 := Aside0.mk (below_size hb); obtain ⟨Au9_0, cu9_0, qu9_0⟩ := Kd.R_slice ho0; subst qu9_0; obtain ⟨Au9_1, cu9_1, qu9_1⟩ := Kd.R_slice ho1; subst qu9_1; have HOu9_0 := Aside0.mk (Kd.R_lower (R_rng ho0) (below_size (by repeat (first | (with_reducible first | exact HB8.out | apply below_alloc | apply pw_below_drewN | apply below_drew1) | exact HB8.out)))); have HOu9_1 := Aside0.mk (Kd.R_lower (R_rng ho1) (below_size (by repeat (first | (with_reducible first | exact HB8.out | apply below_alloc | apply pw_below_drewN | apply below_drew1) | exact HB8.out)))); have HOu1_0q8 := Aside0.mk (Kd.R_below (by (with_reducible repeat (first | apply Kd.R_alloc | apply Kd.R_drewN | apply Kd.R_drew)); exact HOu1_0q7.out) hb); have HOu1_1q8 := Aside0.mk (Kd.R_below (by (with_reducible repeat (first | apply Kd.R_alloc | apply Kd.R_drewN | apply Kd.R_drew)); exact HOu1_1q7.out) hb); have HOu2_0q2mq4 := Aside0.mk (Kd.R_below (by (with_reducible repeat (first | apply Kd.R_alloc | apply Kd.R_drewN | apply Kd.R_drew)); exact HOu2_0q2mq3.out) hb); have HOu2_1q3mq3 := Aside0.mk (Kd.R_below (by (with_reducible repeat (first | apply Kd.R_alloc | apply Kd.R_drewN | apply Kd.R_drew)); exact HOu2_1q3mq2.out) hb); clear HOu1_0q7 HOu1_1q7 HOu2_0q2mq3 HOu2_1q3mq2)
    | (go_at_call 16; (with_reducible refine (laws_eqIntS.calls k _ _ r9_r1 _ _ r1_r1 true _ ?s1 ?s2 ?s3 ?s4 A10.out).mono ?_); (case s1 => repeat (first | exact (Kd.R_reads' HOu9_0.out).2.2 | (with_reducible refine Kd.C_alloc ?_ _) | (with_reducible refine Kd.C_drewN ?_ _) | (with_reducible refine Kd.C_drew ?_))); (case s2 => exact (Kd.R_reads' HOu9_0.out).2.1); (case s3 => repeat (first | exact (Kd.R_reads' HOu1_0q8.out).2.2 | (with_reducible refine Kd.C_alloc ?_ _) | (with_reducible refine Kd.C_drewN ?_ _) | (with_reducible refine Kd.C_drew ?_))); (case s4 => exact (Kd.R_reads' HOu1_0q8.out).2.1); rintro e w10 ⟨rfl, hd⟩; have hb := hd.below; have HB10 := Aside0.mk (below_step (by repeat (first | (with_reducible first | exact HB9.out | apply below_alloc | apply pw_below_drewN | apply below_drew1) | exact HB9.out)) hb); have LE10 := Aside0.mk (below_size hb); have HOu1_0q9 := Aside0.mk (Kd.R_below (by (with_reducible repeat (first | apply Kd.R_alloc | apply Kd.R_drewN | apply Kd.R_drew)); exact HOu1_0q8.out) hb); have HOu1_1q9 := Aside0.mk (Kd.R_below (by (with_reducible repeat (first | apply Kd.R_alloc | apply Kd.R_drewN | apply Kd.R_drew)); exact HOu1_1q8.out) hb); have HOu2_0q2mq5 := Aside0.mk (Kd.R_below (by (with_reducible repeat (first | apply Kd.R_alloc | apply Kd.R_drewN | apply Kd.R_drew)); exact HOu2_0q2mq4.out) hb); have HOu2_1q3mq4 := Aside0.mk (Kd.R_below (by (with_reducible repeat (first | apply Kd.R_alloc | apply Kd.R_drewN | apply Kd.R_drew)); exact HOu2_1q3mq3.out) hb); have HOu9_0q1 := Aside0.mk (Kd.R_below (by (with_reducible repeat (first | apply Kd.R_alloc | apply Kd.R_drewN | apply Kd.R_drew)); exact HOu9_0.out) hb); have HOu9_1q1 := Aside0.mk (Kd.R_below (by (with_reducible repeat (first | apply Kd.R_alloc | apply Kd.R_drewN | apply Kd.R_drew)); exact HOu9_1.out) hb); clear HOu1_0q8 HOu1_1q8 HOu2_0q2mq4 HOu2_1q3mq3 HOu9_0 HOu9_1)
    | (go_at_call 16; (with_reducible refine (laws_eqIntS.calls k _ _ r9_r2 _ _ r1_r2 true _ ?s1 ?s2 ?s3 ?s4 A11.out).mono ?_); (case s1 => repeat (first | exact (Kd.R_reads' HOu9_1q1.out).2.2 | (with_reducible refine Kd.C_alloc ?_ _) | (with_reducible refine Kd.C_drewN ?_ _) | (with_reducible refine Kd.C_drew ?_))); (case s2 => exact (Kd.R_reads' HOu9_1q1.out).2.1); (case s3 => repeat (first | exact (Kd.R_reads' HOu1_1q9.out).2.2 | (with_reducible refine Kd.C_alloc ?_ _) | (with_reducible refine Kd.C_drewN ?_ _) | (with_reducible refine Kd.C_drew ?_))); (case s4 => exact (Kd.R_reads' HOu1_1q9.out).2.1); rintro e w11 ⟨rfl, hd⟩; have hb := hd.below; have HB11 := Aside0.mk (below_step (by repeat (first | (with_reducible first | exact HB10.out | apply below_alloc | apply pw_below_drewN | apply below_drew1) | exact HB10.out)) hb); have LE11 := Aside0.mk (below_size hb); have HOu1_0q10 := Aside0.mk (Kd.R_below (by (with_reducible repeat (first | apply Kd.R_alloc | apply Kd.R_drewN | apply Kd.R_drew)); exact HOu1_0q9.out) hb); have HOu1_1q10 := Aside0.mk (Kd.R_below (by (with_reducible repeat (first | apply Kd.R_alloc | apply Kd.R_drewN | apply Kd.R_drew)); exact HOu1_1q9.out) hb); have HOu2_0q2mq6 := Aside0.mk (Kd.R_below (by (with_reducible repeat (first | apply Kd.R_alloc | apply Kd.R_drewN | apply Kd.R_drew)); exact HOu2_0q2mq5.out) hb); have HOu2_1q3mq5 := Aside0.mk (Kd.R_below (by (with_reducible repeat (first | apply Kd.R_alloc | apply Kd.R_drewN | apply Kd.R_drew)); exact HOu2_1q3mq4.out) hb); have HOu9_0q2 := Aside0.mk (Kd.R_below (by (with_reducible repeat (first | apply Kd.R_alloc | apply Kd.R_drewN | apply Kd.R_drew)); exact HOu9_0q1.out) hb); have HOu9_1q2 := Aside0.mk (Kd.R_below (by (with_reducible repeat (first | apply Kd.R_alloc | apply Kd.R_drewN | apply Kd.R_drew)); exact HOu9_1q1.out) hb); clear HOu1_0q9 HOu1_1q9 HOu2_0q2mq5 HOu2_1q3mq4 HOu9_0q1 HOu9_1q1)
    | (go_at_call 18; (with_reducible refine (laws_heldIntS.calls k _ _ r5_r2 1 r12_r _ ?s1 ?s2 A12.out).mono ?_); (case s1 => repeat (first | exact (Kd.R_reads' HOu2_0q2mq6.out).2.2 | (with_reducible refine Kd.C_alloc ?_ _) | (with_reducible refine Kd.C_drewN ?_ _) | (with_reducible refine Kd.C_drew ?_))); (case s2 => exact (Kd.R_reads' HOu2_0q2mq6.out).2.1); rintro e w12 ⟨rfl, hd⟩; have hb := hd.below; have HB12 := Aside0.mk (below_step (by repeat (first | (with_reducible first | exact HB11.out | apply below_alloc | apply pw_below_drewN | apply below_drew1) | exact HB11.out)) hb); have LE12 := Aside0.mk (below_size hb); have HOu2_0q2mq7 := Aside0.mk (Kd.R_below (by (with_reducible repeat (first | apply Kd.R_alloc | apply Kd.R_drewN | apply Kd.R_drew)); exact HOu2_0q2mq6.out) hb); have HOu2_1q3mq6 := Aside0.mk (Kd.R_below (by (with_reducible repeat (first | apply Kd.R_alloc | apply Kd.R_drewN | apply Kd.R_drew)); exact HOu2_1q3mq5.out) hb); clear HOu2_0q2mq6 HOu2_1q3mq5)
    | (go_at_call 18; (with_reducible refine (laws_heldIntS.calls k _ _ r6_r2 r12_r r13_r _ ?s1 ?s2 A13.out).mono ?_); (case s1 => repeat (first | exact (Kd.R_reads' HOu2_1q3mq6.out).2.2 | (with_reducible refine Kd.C_alloc ?_ _) | (with_reducible refine Kd.C_drewN ?_ _) | (with_reducible refine Kd.C_drew ?_))); (case s2 => exact (Kd.R_reads' HOu2_1q3mq6.out).2.1); rintro e w13 ⟨rfl, hd⟩; have hb := hd.below; have HB13 := Aside0.mk (below_step (by repeat (first | (with_reducible first | exact HB12.out | apply below_alloc | apply pw_below_drewN | apply below_drew1) | exact HB12.out)) hb); have LE13 := Aside0.mk (below_size hb); have HOu2_1q3mq7 := Aside0.mk (Kd.R_below (by (with_reducible repeat (first | apply Kd.R_alloc | apply Kd.R_drewN | apply Kd.R_drew)); exact HOu2_1q3mq6.out) hb); clear HOu2_1q3mq6))
  go_ret
  exact ⟨by first | rfl | (simp; done) | (simp [*]; done), (by repeat (first | (with_reducible first | exact HB13.out | apply below_alloc | apply pw_below_drewN | apply below_drew1) | exact HB13.out))⟩


end Go.Proofs.YtpmdecdomfoaoaaDoor.P
