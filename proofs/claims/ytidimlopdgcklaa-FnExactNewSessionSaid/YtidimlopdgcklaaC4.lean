import Derived.Test.YtidimlopdgcklaaP0
import Derived.Test.YtidimlopdgcklaaC2
import Derived.Test.YtidimlopdgcklaaC3
namespace Go.Proofs.Ytidimlopdgcklaa.P
open Go.RowKit Go.Proofs.YtidimlopdgcklaaW.PrintWords Go.Proofs.YtidimlopdgcklaaW.PrintLast Go.Proofs.YtidimlopdgcklaaW.PrintMore
attribute [local go_sem] max2_int min2_int max_two min_two max_three min_three max_four min_four   -- for this text's walks alone
set_option linter.unusedVariables false
set_option linter.unusedSimpArgs false

/-! ### laws_markBuf: function 93 -/
abbrev tt73 : Bool := true
abbrev ff73 : Bool := false
def laws_markBuf.f (k : Nat) (a0_0 : Int) (l0_1 : List Int) (l0_2 : List Int) (a0_3 : Int) (a1 : Int) : Option (Int × List Int × List Int) := (laws_markIntS.f k l0_1 a1).bind fun bt791 => ((laws_markIntS.f k l0_2 bt791.1).bind fun bt793 => (some (bt793.1, bt791.2, bt793.2)))
theorem laws_markBuf.mono : ∀ a0 a1 a2 a3 a4 k, LeO (laws_markBuf.f k a0 a1 a2 a3 a4) (laws_markBuf.f (k + 1) a0 a1 a2 a3 a4) := by
 intro a0 a1 a2 a3 a4 k
 unfold laws_markBuf.f
 repeat' first
   | (with_reducible exact laws_markIntS.mono _ _ _)
   | (with_reducible exact LeO.refl _)
   | (with_reducible exact LeO.none _)
   | (with_reducible refine LeO.ite ?_ ?_)
   | (with_reducible refine LeO.bind ?_ (fun _ => ?_))
   | exact laws_markIntS.mono _ _ _
   | exact LeO.none _
   | refine LeO.ite ?_ ?_
   | refine LeO.bind ?_ (fun _ => ?_)
set_option maxHeartbeats 8000000 in
set_option maxRecDepth 100000 in
theorem laws_markBuf.calls (k : Nat) (a0_0 : Int) (P0_1_ : Nat → Prop) (u9000_ : Value) (l0_1 : List Int) (P0_2_ : Nat → Prop) (u9001_ : Value) (l0_2 : List Int) (a0_3 : Int) (a1 : Int) (r1 : Int) (r2 : List Int) (r3 : List Int) (w0 w : World) (hB : Below w0.heap.size w0 w) (ho0_1 : Kd.R (Kd.int .i64) 3 w w0.heap.size P0_1_ u9000_ l0_1) (hp0_1_0_2 : ∀ k_, P0_1_ k_ → ¬ P0_2_ k_) (ho0_2 : Kd.R (Kd.int .i64) 3 w w0.heap.size P0_2_ u9001_ l0_2) (hp0_2_0_1 : ∀ k_, P0_2_ k_ → ¬ P0_1_ k_) (h : laws_markBuf.f k a0_0 l0_1 l0_2 a0_3 a1 = some (r1, r2, r3)) :
  Calls Try.prog 93 #[.agg #[.int .i64 a0_0, u9000_, u9001_, .int .i64 a0_3], .int .i64 a1] w fun e w' => e = .returned (.int .i64 r1) ∧ Kd.R (Kd.int .i64) 3 w' w0.heap.size (fun k_ => ((P0_1_ k_ ∨ P0_2_ k_) ∨ w.heap.size ≤ k_)) u9000_ r2 ∧ Kd.R (Kd.int .i64) 3 w' w0.heap.size (fun k_ => ((P0_1_ k_ ∨ P0_2_ k_) ∨ w.heap.size ≤ k_)) u9001_ r3 ∧ Below w0.heap.size w0 w' ∧ Kept w w' (fun k_ => P0_1_ k_ ∨ P0_2_ k_) := by
 have hu41 := Try.underlying41
 have HO0_1 := Aside0.mk (show Kd.R (Kd.int .i64) 3 w w0.heap.size (fun k_ => ((P0_1_ k_ ∨ P0_2_ k_) ∨ w.heap.size ≤ k_) ∧ some k_ ≠ (u9001_ : Value).ownBlock) u9000_ l0_1 from Kd.R_mono ho0_1 (fun k_ hk => ⟨(.inl (.inl hk)), fun e_ => hp0_1_0_2 k_ hk (ho0_2.1 k_ e_.symm)⟩))
 have HO0_2 := Aside0.mk (show Kd.R (Kd.int .i64) 3 w w0.heap.size (fun k_ => ((P0_1_ k_ ∨ P0_2_ k_) ∨ w.heap.size ≤ k_) ∧ some k_ ≠ (u9000_ : Value).ownBlock) u9001_ l0_2 from Kd.R_mono ho0_2 (fun k_ hk => ⟨(.inl (.inr hk)), fun e_ => hp0_2_0_1 k_ hk (ho0_1.1 k_ e_.symm)⟩))
 have HK := Aside0.mk (Kept.refl w (fun k_ => P0_1_ k_ ∨ P0_2_ k_))
 have HW0 := Aside0.mk hB.size
 have HB := Aside0.mk hB
 clear hB
 have H : ((laws_markIntS.f k l0_1 a1).bind fun bt791 => ((laws_markIntS.f k l0_2 bt791.1).bind fun bt793 => (some (bt793.1, bt791.2, bt793.2)))) = some (r1, r2, r3) := h
 clear h
 replace H := Option.bind_eq_some_iff.mp H
 obtain ⟨⟨t791, t792⟩, A30, H⟩ := H
 replace H : ((laws_markIntS.f k l0_2 t791).bind fun bt793 => (some (bt793.1, t792, bt793.2))) = some (r1, r2, r3) := H
 have A3 := Aside0.mk A30
 clear A30
 replace H := Option.bind_eq_some_iff.mp H
 obtain ⟨⟨t793, t794⟩, A40, H⟩ := H
 replace H : (some (t793, t792, t794)) = some (r1, r2, r3) := H
 have A4 := Aside0.mk A40
 clear A40
 simp only [Option.some.injEq, Prod.mk.injEq] at H
 obtain ⟨rfl, rfl, rfl⟩ := H
 obtain ⟨Ao5, co5, eo5⟩ := Kd.R_slice HO0_1.out
 subst eo5
 obtain ⟨Ao6, co6, eo6⟩ := Kd.R_slice HO0_2.out
 subst eo6
 go_enter Try.func93, Try.ntmps93
 go_wp2_with (first | ((with_reducible refine gate_dst (N := 2) rfl ?_); refine box_event ?hg (N := 2) ?hd (cs := #[.int .i64 a0_0, .slice Ao5 l0_1.length co5, .slice Ao6 l0_2.length co6, .int .i64 a0_3]) (t := 41) ?hr ?_; (case hd => rfl); (case hg => rfl); (case hr => first | (go_simp; done) | (go_simp; rfl)); intro gb790 hg w7 hbox hb; have n0_ := Aside0.mk (Kd.R_below (by (with_reducible repeat (first | apply Kd.R_alloc | apply Kd.R_drewN | apply Kd.R_drew)); exact HO0_1.out) hb); have n1_ := Aside0.mk (Kd.R_below (by (with_reducible repeat (first | apply Kd.R_alloc | apply Kd.R_drewN | apply Kd.R_drew)); exact HO0_2.out) hb); have n2_ := Aside0.mk (Kept.below (S := (fun k_ => P0_1_ k_ ∨ P0_2_ k_)) (by repeat (first | (with_reducible first | exact HK.out | apply Kept.alloc | apply Kept.drewN | apply Kept.drew) | exact HK.out)) hb); have n3_ := Aside0.mk (below_step (by repeat (first | (with_reducible first | exact HB.out | apply below_alloc | apply pw_below_drewN | apply below_drew1) | exact HB.out)) hb); have n4_ := Aside0.mk (hbox); have n5_ := Aside0.mk ((by rw [hg]; exact (by first | exact HK.out.1 | exact (show Kept w _ (fun k_ => P0_1_ k_ ∨ P0_2_ k_) from by repeat (first | (with_reducible first | exact HK.out | apply Kept.alloc | apply Kept.drewN | apply Kept.drew) | exact HK.out)).1) : w.heap.size ≤ gb790)); have n6_ := Aside0.mk ((by rw [hg]; exact (below_size (by repeat (first | (with_reducible first | exact HB.out | apply below_alloc | apply pw_below_drewN | apply below_drew1) | exact HB.out))) : w0.heap.size ≤ gb790)); clear HO0_1; clear HO0_2; clear HK; clear HB; have HO0_1 := n0_; have HO0_2 := n1_; have HK := n2_; have HB := n3_; have BK790 := n4_; have GW790 := n5_; have GE790 := n6_; clear n0_ n1_ n2_ n3_ n4_ n5_ n6_; clear hb hbox hg; have hcz8_0 : w7.cell? ⟨gb790, 0, none⟩ = some (.int .i64 a0_0) := (blk_cell BK790.out 0).trans rfl; have hcz8_1 : w7.cell? ⟨gb790, 1, none⟩ = some (.slice Ao5 l0_1.length co5) := (blk_cell BK790.out 1).trans rfl; have hcz8_2 : w7.cell? ⟨gb790, 2, none⟩ = some (.slice Ao6 l0_2.length co6) := (blk_cell BK790.out 2).trans rfl; have hcz8_3 : w7.cell? ⟨gb790, 3, none⟩ = some (.int .i64 a0_3) := (blk_cell BK790.out 3).trans rfl; have hfz8_0 := blk_frozen BK790.out 0; have hfz8_1 := blk_frozen BK790.out 1; have hfz8_2 := blk_frozen BK790.out 2; have hfz8_3 := blk_frozen BK790.out 3) | ((with_reducible refine gate_callee (f := 32) rfl ?_); refine goesL_ (some 8) rfl rfl Try.func32 (by kernel_rfl) rfl #[.slice Ao5 l0_1.length co5, .int .i64 a1] rfl (by (try simp only [List.map_toArray, List.map_cons, List.map_nil]); first | done | rfl | (simp only [List.length_drop, List.length_take]; rfl)) ?_; (with_reducible refine (laws_markIntS.calls k (fun k_ => some k_ = (.slice Ao5 l0_1.length co5 : Value).ownBlock) (.slice Ao5 l0_1.length co5) l0_1 a1 t791 t792 w0 _ ?side1 ?side2 A3.out).mono ?_); (case side1 => repeat (first | (with_reducible first | exact HB.out | apply below_alloc | apply pw_below_drewN | apply below_drew1 | refine below_set ?_ GE790.out) | exact HB.out)); (case side2 => exact Kd.R_tight rfl HO0_1.out); rintro e w9 ⟨rfl, hy0, hb, hkp⟩; refine ⟨_, rfl, ?_⟩; have n0_ := Aside0.mk (Kd.R_reok rfl hy0 (fun k_ e_ => HO0_1.out.1 k_ e_)); have n1_ := Aside0.mk (Kd.R_mono (ok' := fun k_ => ((P0_1_ k_ ∨ P0_2_ k_) ∨ w.heap.size ≤ k_) ∧ some k_ ≠ (.slice Ao5 l0_1.length co5 : Value).ownBlock) (Kd.R_keptB (HO0_2.out) hkp (fun k_ hk_ hs_ => (hk_.2) hs_)) (fun k_ hk_ => ⟨hk_.1.1, hk_.1.2⟩)); have n2_ := Aside0.mk (blk_kept (by (with_reducible repeat (first | refine blk_drewN ?_ _ | refine blk_drew ?_ | refine blk_alloc ?_ _)); exact BK790.out) hkp (fun hs_ => (fun e_ => (Kd.R_ne HO0_1.out BK790.out (by decide)) e_) hs_)); have n3_ := Aside0.mk (Kept.then_ (S := (fun k_ => P0_1_ k_ ∨ P0_2_ k_)) (by repeat (first | (with_reducible first | exact HK.out | apply Kept.alloc | apply Kept.drewN | apply Kept.drew | refine Kept.setCell ?_ (.inr GW790.out) _) | exact HK.out)) hkp (fun k_ hs_ => (fun e_ => (HO0_1.out.1 k_ e_.symm).1) hs_)); have n4_ := Aside0.mk (hb); clear HO0_1; clear HO0_2; clear BK790; clear HK; clear HB; have HO0_1 := n0_; have HO0_2 := n1_; have BK790 := n2_; have HK := n3_; have HB := n4_; clear n0_ n1_ n2_ n3_ n4_; (try clear hb); (try clear hkp); (try clear hy0); have hcz10_0 : w9.cell? ⟨gb790, 0, none⟩ = some (.int .i64 a0_0) := (blk_cell BK790.out 0).trans rfl; have hcz10_1 : w9.cell? ⟨gb790, 1, none⟩ = some (.slice Ao5 l0_1.length co5) := (blk_cell BK790.out 1).trans rfl; have hcz10_2 : w9.cell? ⟨gb790, 2, none⟩ = some (.slice Ao6 l0_2.length co6) := (blk_cell BK790.out 2).trans rfl; have hcz10_3 : w9.cell? ⟨gb790, 3, none⟩ = some (.int .i64 a0_3) := (blk_cell BK790.out 3).trans rfl; have hfz10_0 := blk_frozen BK790.out 0; have hfz10_1 := blk_frozen BK790.out 1; have hfz10_2 := blk_frozen BK790.out 2; have hfz10_3 := blk_frozen BK790.out 3) | ((with_reducible refine gate_callee (f := 32) rfl ?_); refine goesL_ (some 12) rfl rfl Try.func32 (by kernel_rfl) rfl #[.slice Ao6 l0_2.length co6, .int .i64 t791] rfl (by (try simp only [List.map_toArray, List.map_cons, List.map_nil]); first | done | rfl | (simp only [List.length_drop, List.length_take]; rfl)) ?_; (with_reducible refine (laws_markIntS.calls k (fun k_ => some k_ = (.slice Ao6 l0_2.length co6 : Value).ownBlock) (.slice Ao6 l0_2.length co6) l0_2 t791 t793 t794 w0 _ ?side1 ?side2 A4.out).mono ?_); (case side1 => repeat (first | (with_reducible first | exact HB.out | apply below_alloc | apply pw_below_drewN | apply below_drew1 | refine below_set ?_ GE790.out) | exact HB.out)); (case side2 => exact Kd.R_tight rfl HO0_2.out); rintro e w11 ⟨rfl, hy0, hb, hkp⟩; refine ⟨_, rfl, ?_⟩; have n0_ := Aside0.mk (Kd.R_mono (ok' := fun k_ => ((P0_1_ k_ ∨ P0_2_ k_) ∨ w.heap.size ≤ k_) ∧ some k_ ≠ (.slice Ao6 l0_2.length co6 : Value).ownBlock) (Kd.R_keptB (HO0_1.out) hkp (fun k_ hk_ hs_ => (hk_.2) hs_)) (fun k_ hk_ => ⟨hk_.1.1, hk_.1.2⟩)); have n1_ := Aside0.mk (Kd.R_reok rfl hy0 (fun k_ e_ => HO0_2.out.1 k_ e_)); have n2_ := Aside0.mk (blk_kept (by (with_reducible repeat (first | refine blk_drewN ?_ _ | refine blk_drew ?_ | refine blk_alloc ?_ _)); exact BK790.out) hkp (fun hs_ => (fun e_ => (Kd.R_ne HO0_2.out BK790.out (by decide)) e_) hs_)); have n3_ := Aside0.mk (Kept.then_ (S := (fun k_ => P0_1_ k_ ∨ P0_2_ k_)) (by repeat (first | (with_reducible first | exact HK.out | apply Kept.alloc | apply Kept.drewN | apply Kept.drew | refine Kept.setCell ?_ (.inr GW790.out) _) | exact HK.out)) hkp (fun k_ hs_ => (fun e_ => (HO0_2.out.1 k_ e_.symm).1) hs_)); have n4_ := Aside0.mk (hb); clear HO0_1; clear HO0_2; clear BK790; clear HK; clear HB; have HO0_1 := n0_; have HO0_2 := n1_; have BK790 := n2_; have HK := n3_; have HB := n4_; clear n0_ n1_ n2_ n3_ n4_; (try clear hb); (try clear hkp); (try clear hy0)))
 go_ret
 exact ⟨by first | rfl | (simp [errW_none, errW_some] <;> rfl) | (simp [*, errW_none, errW_some] <;> rfl), by (with_reducible repeat (first | apply Kd.R_alloc | apply Kd.R_drewN | apply Kd.R_drew)); exact Kd.R_mono HO0_1.out (fun _ hk => hk.1), by (with_reducible repeat (first | apply Kd.R_alloc | apply Kd.R_drewN | apply Kd.R_drew)); exact Kd.R_mono HO0_2.out (fun _ hk => hk.1), by repeat (first | (with_reducible first | exact HB.out | apply below_alloc | apply pw_below_drewN | apply below_drew1 | refine below_set ?_ GE790.out) | exact HB.out), by repeat (first | (with_reducible first | exact HK.out | apply Kept.alloc | apply Kept.drewN | apply Kept.drew | refine Kept.setCell ?_ (.inr GW790.out) _) | exact HK.out)⟩

/-! ### laws_markSession: function 52 -/
abbrev tt74 : Bool := true
abbrev ff74 : Bool := false
def laws_markSession.f (k : Nat) (a0_0 : Int) (a0_1 : Int) (a0_2 : Int) (a0_3 : ByteArray) (a0_4 : Int) (l0_5 : List Int) (l0_6 : List Int) (a0_7 : Int) (a0_8 : Bool) (a1 : Int) : Option (Int × List Int × List Int) := (laws_markBuf.f k a0_4 l0_5 l0_6 a0_7 a1).bind fun bt796 => (some (bt796.1, bt796.2.1, bt796.2.2))
theorem laws_markSession.mono : ∀ a0 a1 a2 a3 a4 a5 a6 a7 a8 a9 k, LeO (laws_markSession.f k a0 a1 a2 a3 a4 a5 a6 a7 a8 a9) (laws_markSession.f (k + 1) a0 a1 a2 a3 a4 a5 a6 a7 a8 a9) := by
 intro a0 a1 a2 a3 a4 a5 a6 a7 a8 a9 k
 unfold laws_markSession.f
 repeat' first
   | (with_reducible exact laws_markBuf.mono _ _ _ _ _ _)
   | (with_reducible exact LeO.refl _)
   | (with_reducible exact LeO.none _)
   | (with_reducible refine LeO.ite ?_ ?_)
   | (with_reducible refine LeO.bind ?_ (fun _ => ?_))
   | exact laws_markBuf.mono _ _ _ _ _ _
   | exact LeO.none _
   | refine LeO.ite ?_ ?_
   | refine LeO.bind ?_ (fun _ => ?_)
set_option maxHeartbeats 8000000 in
set_option maxRecDepth 100000 in
theorem laws_markSession.calls (k : Nat) (a0_0 : Int) (a0_1 : Int) (a0_2 : Int) (a0_3 : ByteArray) (a0_4 : Int) (P0_5_ : Nat → Prop) (u9000_ : Value) (l0_5 : List Int) (P0_6_ : Nat → Prop) (u9001_ : Value) (l0_6 : List Int) (a0_7 : Int) (a0_8 : Bool) (a1 : Int) (r1 : Int) (r2 : List Int) (r3 : List Int) (w0 w : World) (hB : Below w0.heap.size w0 w) (ho0_5 : Kd.R (Kd.int .i64) 3 w w0.heap.size P0_5_ u9000_ l0_5) (hp0_5_0_6 : ∀ k_, P0_5_ k_ → ¬ P0_6_ k_) (ho0_6 : Kd.R (Kd.int .i64) 3 w w0.heap.size P0_6_ u9001_ l0_6) (hp0_6_0_5 : ∀ k_, P0_6_ k_ → ¬ P0_5_ k_) (h : laws_markSession.f k a0_0 a0_1 a0_2 a0_3 a0_4 l0_5 l0_6 a0_7 a0_8 a1 = some (r1, r2, r3)) :
  Calls Try.prog 52 #[.agg #[.int .i64 a0_0, .int .i64 a0_1, .int .i64 a0_2, .string a0_3, .int .i64 a0_4, u9000_, u9001_, .int .i64 a0_7, .bool a0_8], .int .i64 a1] w fun e w' => e = .returned (.int .i64 r1) ∧ Kd.R (Kd.int .i64) 3 w' w0.heap.size (fun k_ => ((P0_5_ k_ ∨ P0_6_ k_) ∨ w.heap.size ≤ k_)) u9000_ r2 ∧ Kd.R (Kd.int .i64) 3 w' w0.heap.size (fun k_ => ((P0_5_ k_ ∨ P0_6_ k_) ∨ w.heap.size ≤ k_)) u9001_ r3 ∧ Below w0.heap.size w0 w' ∧ Kept w w' (fun k_ => P0_5_ k_ ∨ P0_6_ k_) := by
 have hu70 := Try.underlying70
 have hu41 := Try.underlying41
 have HO0_5 := Aside0.mk (show Kd.R (Kd.int .i64) 3 w w0.heap.size (fun k_ => ((P0_5_ k_ ∨ P0_6_ k_) ∨ w.heap.size ≤ k_) ∧ some k_ ≠ (u9001_ : Value).ownBlock) u9000_ l0_5 from Kd.R_mono ho0_5 (fun k_ hk => ⟨(.inl (.inl hk)), fun e_ => hp0_5_0_6 k_ hk (ho0_6.1 k_ e_.symm)⟩))
 have HO0_6 := Aside0.mk (show Kd.R (Kd.int .i64) 3 w w0.heap.size (fun k_ => ((P0_5_ k_ ∨ P0_6_ k_) ∨ w.heap.size ≤ k_) ∧ some k_ ≠ (u9000_ : Value).ownBlock) u9001_ l0_6 from Kd.R_mono ho0_6 (fun k_ hk => ⟨(.inl (.inr hk)), fun e_ => hp0_6_0_5 k_ hk (ho0_5.1 k_ e_.symm)⟩))
 have HK := Aside0.mk (Kept.refl w (fun k_ => P0_5_ k_ ∨ P0_6_ k_))
 have HW0 := Aside0.mk hB.size
 have HB := Aside0.mk hB
 clear hB
 have H : ((laws_markBuf.f k a0_4 l0_5 l0_6 a0_7 a1).bind fun bt796 => (some (bt796.1, bt796.2.1, bt796.2.2))) = some (r1, r2, r3) := h
 clear h
 replace H := Option.bind_eq_some_iff.mp H
 obtain ⟨⟨t796, t797, t798⟩, A30, H⟩ := H
 replace H : (some (t796, t797, t798)) = some (r1, r2, r3) := H
 have A3 := Aside0.mk A30
 clear A30
 simp only [Option.some.injEq, Prod.mk.injEq] at H
 obtain ⟨rfl, rfl, rfl⟩ := H
 obtain ⟨Ao4, co4, eo4⟩ := Kd.R_slice HO0_5.out
 subst eo4
 obtain ⟨Ao5, co5, eo5⟩ := Kd.R_slice HO0_6.out
 subst eo5
 go_enter Try.func52, Try.ntmps52
 go_wp2_with (first | ((with_reducible refine gate_dst (N := 2) rfl ?_); refine box_event ?hg (N := 2) ?hd (cs := #[.int .i64 a0_0, .int .i64 a0_1, .int .i64 a0_2, .string a0_3, .int .i64 a0_4, .slice Ao4 l0_5.length co4, .slice Ao5 l0_6.length co5, .int .i64 a0_7, .bool a0_8]) (t := 70) ?hr ?_; (case hd => rfl); (case hg => rfl); (case hr => first | (go_simp; done) | (go_simp; rfl)); intro gb795 hg w6 hbox hb; have n0_ := Aside0.mk (Kd.R_below (by (with_reducible repeat (first | apply Kd.R_alloc | apply Kd.R_drewN | apply Kd.R_drew)); exact HO0_5.out) hb); have n1_ := Aside0.mk (Kd.R_below (by (with_reducible repeat (first | apply Kd.R_alloc | apply Kd.R_drewN | apply Kd.R_drew)); exact HO0_6.out) hb); have n2_ := Aside0.mk (Kept.below (S := (fun k_ => P0_5_ k_ ∨ P0_6_ k_)) (by repeat (first | (with_reducible first | exact HK.out | apply Kept.alloc | apply Kept.drewN | apply Kept.drew) | exact HK.out)) hb); have n3_ := Aside0.mk (below_step (by repeat (first | (with_reducible first | exact HB.out | apply below_alloc | apply pw_below_drewN | apply below_drew1) | exact HB.out)) hb); have n4_ := Aside0.mk (hbox); have n5_ := Aside0.mk ((by rw [hg]; exact (by first | exact HK.out.1 | exact (show Kept w _ (fun k_ => P0_5_ k_ ∨ P0_6_ k_) from by repeat (first | (with_reducible first | exact HK.out | apply Kept.alloc | apply Kept.drewN | apply Kept.drew) | exact HK.out)).1) : w.heap.size ≤ gb795)); have n6_ := Aside0.mk ((by rw [hg]; exact (below_size (by repeat (first | (with_reducible first | exact HB.out | apply below_alloc | apply pw_below_drewN | apply below_drew1) | exact HB.out))) : w0.heap.size ≤ gb795)); clear HO0_5; clear HO0_6; clear HK; clear HB; have HO0_5 := n0_; have HO0_6 := n1_; have HK := n2_; have HB := n3_; have BK795 := n4_; have GW795 := n5_; have GE795 := n6_; clear n0_ n1_ n2_ n3_ n4_ n5_ n6_; clear hb hbox hg; have hcz7_0 : w6.cell? ⟨gb795, 0, none⟩ = some (.int .i64 a0_0) := (blk_cell BK795.out 0).trans rfl; have hcz7_1 : w6.cell? ⟨gb795, 1, none⟩ = some (.int .i64 a0_1) := (blk_cell BK795.out 1).trans rfl; have hcz7_2 : w6.cell? ⟨gb795, 2, none⟩ = some (.int .i64 a0_2) := (blk_cell BK795.out 2).trans rfl; have hcz7_3 : w6.cell? ⟨gb795, 3, none⟩ = some (.string a0_3) := (blk_cell BK795.out 3).trans rfl; have hcz7_4 : w6.cell? ⟨gb795, 4, none⟩ = some (.int .i64 a0_4) := (blk_cell BK795.out 4).trans rfl; have hcz7_5 : w6.cell? ⟨gb795, 5, none⟩ = some (.slice Ao4 l0_5.length co4) := (blk_cell BK795.out 5).trans rfl; have hcz7_6 : w6.cell? ⟨gb795, 6, none⟩ = some (.slice Ao5 l0_6.length co5) := (blk_cell BK795.out 6).trans rfl; have hcz7_7 : w6.cell? ⟨gb795, 7, none⟩ = some (.int .i64 a0_7) := (blk_cell BK795.out 7).trans rfl; have hcz7_8 : w6.cell? ⟨gb795, 8, none⟩ = some (.bool a0_8) := (blk_cell BK795.out 8).trans rfl; have hfz7_0 := blk_frozen BK795.out 0; have hfz7_1 := blk_frozen BK795.out 1; have hfz7_2 := blk_frozen BK795.out 2; have hfz7_3 := blk_frozen BK795.out 3; have hfz7_4 := blk_frozen BK795.out 4; have hfz7_5 := blk_frozen BK795.out 5; have hfz7_6 := blk_frozen BK795.out 6; have hfz7_7 := blk_frozen BK795.out 7; have hfz7_8 := blk_frozen BK795.out 8) | ((with_reducible refine gate_callee (f := 93) rfl ?_); refine goesL_ (some 8) rfl rfl Try.func93 (by kernel_rfl) rfl #[.agg #[.int .i64 a0_4, .slice Ao4 l0_5.length co4, .slice Ao5 l0_6.length co5, .int .i64 a0_7], .int .i64 a1] rfl (by (try simp only [List.map_toArray, List.map_cons, List.map_nil]); first | done | rfl | (simp only [List.length_drop, List.length_take]; rfl)) ?_; (with_reducible refine (laws_markBuf.calls k a0_4 (fun k_ => some k_ = (.slice Ao4 l0_5.length co4 : Value).ownBlock) (.slice Ao4 l0_5.length co4) l0_5 (fun k_ => some k_ = (.slice Ao5 l0_6.length co5 : Value).ownBlock) (.slice Ao5 l0_6.length co5) l0_6 a0_7 a1 t796 t797 t798 w0 _ ?side1 ?side2 ?side3 ?side4 ?side5 A3.out).mono ?_); (case side1 => repeat (first | (with_reducible first | exact HB.out | apply below_alloc | apply pw_below_drewN | apply below_drew1 | refine below_set ?_ GE795.out) | exact HB.out)); (case side2 => exact Kd.R_tight rfl HO0_5.out); (case side3 => exact fun k_ e_ => (HO0_5.out.1 k_ e_.symm).2); (case side4 => exact Kd.R_tight rfl HO0_6.out); (case side5 => exact fun k_ e_ => (HO0_6.out.1 k_ e_.symm).2); rintro e w8 ⟨rfl, hy0, hy1, hb, hkp⟩; refine ⟨_, rfl, ?_⟩; have n0_ := Aside0.mk (Kd.R_reok rfl hy0 (fun k_ e_ => HO0_5.out.1 k_ e_)); have n1_ := Aside0.mk (Kd.R_reok rfl hy1 (fun k_ e_ => HO0_6.out.1 k_ e_)); have n2_ := Aside0.mk (blk_kept (by (with_reducible repeat (first | refine blk_drewN ?_ _ | refine blk_drew ?_ | refine blk_alloc ?_ _)); exact BK795.out) hkp (fun hs_ => Or.elim hs_ (fun e_ => (fun e_ => (Kd.R_ne HO0_5.out BK795.out (by decide)) e_) e_) (fun e_ => (fun e_ => (Kd.R_ne HO0_6.out BK795.out (by decide)) e_) e_))); have n3_ := Aside0.mk (Kept.then_ (S := (fun k_ => P0_5_ k_ ∨ P0_6_ k_)) (by repeat (first | (with_reducible first | exact HK.out | apply Kept.alloc | apply Kept.drewN | apply Kept.drew | refine Kept.setCell ?_ (.inr GW795.out) _) | exact HK.out)) hkp (fun k_ hs_ => Or.elim hs_ (fun e_ => (fun e_ => (HO0_5.out.1 k_ e_.symm).1) e_) (fun e_ => (fun e_ => (HO0_6.out.1 k_ e_.symm).1) e_))); have n4_ := Aside0.mk (hb); clear HO0_5; clear HO0_6; clear BK795; clear HK; clear HB; have HO0_5 := n0_; have HO0_6 := n1_; have BK795 := n2_; have HK := n3_; have HB := n4_; clear n0_ n1_ n2_ n3_ n4_; (try clear hb); (try clear hkp); (try clear hy0); (try clear hy1)))
 go_ret
 exact ⟨by first | rfl | (simp [errW_none, errW_some] <;> rfl) | (simp [*, errW_none, errW_some] <;> rfl), by (with_reducible repeat (first | apply Kd.R_alloc | apply Kd.R_drewN | apply Kd.R_drew)); exact Kd.R_mono HO0_5.out (fun _ hk => hk.1), by (with_reducible repeat (first | apply Kd.R_alloc | apply Kd.R_drewN | apply Kd.R_drew)); exact Kd.R_mono HO0_6.out (fun _ hk => hk.1), by repeat (first | (with_reducible first | exact HB.out | apply below_alloc | apply pw_below_drewN | apply below_drew1 | refine below_set ?_ GE795.out) | exact HB.out), by repeat (first | (with_reducible first | exact HK.out | apply Kept.alloc | apply Kept.drewN | apply Kept.drew | refine Kept.setCell ?_ (.inr GW795.out) _) | exact HK.out)⟩

/-! ### laws_heldBuf: function 94 -/
abbrev tt75 : Bool := true
abbrev ff75 : Bool := false
def laws_heldBuf.f (k : Nat) (a0_0 : Int) (l0_1 : List Int) (l0_2 : List Int) (a0_3 : Int) (a1 : Int) : Option (Int) := (laws_heldIntS.f k l0_1 a1).bind fun t800 => (if t800 < 0 then (some (-1)) else ((laws_heldIntS.f k l0_2 t800).bind fun t801 => (if t801 < 0 then (some (-1)) else (some t801))))
theorem laws_heldBuf.mono : ∀ a0 a1 a2 a3 a4 k, LeO (laws_heldBuf.f k a0 a1 a2 a3 a4) (laws_heldBuf.f (k + 1) a0 a1 a2 a3 a4) := by
 intro a0 a1 a2 a3 a4 k
 unfold laws_heldBuf.f
 repeat' first
   | (with_reducible exact laws_heldIntS.mono _ _ _)
   | (with_reducible exact LeO.refl _)
   | (with_reducible exact LeO.none _)
   | (with_reducible refine LeO.ite ?_ ?_)
   | (with_reducible refine LeO.bind ?_ (fun _ => ?_))
   | exact laws_heldIntS.mono _ _ _
   | exact LeO.none _
   | refine LeO.ite ?_ ?_
   | refine LeO.bind ?_ (fun _ => ?_)
set_option maxHeartbeats 8000000 in
set_option maxRecDepth 100000 in
theorem laws_heldBuf.calls (k : Nat) (a0_0 : Int) (A0_1 : Option Addr) (c0_1 : Nat) (l0_1 : List Int) (A0_2 : Option Addr) (c0_2 : Nat) (l0_2 : List Int) (a0_3 : Int) (a1 : Int) (r : Int) (w : World) (hr0_1 : Kd.C (Kd.int .i64) w A0_1 l0_1.length l0_1) (hc0_1 : l0_1.length ≤ c0_1) (hr0_2 : Kd.C (Kd.int .i64) w A0_2 l0_2.length l0_2) (hc0_2 : l0_2.length ≤ c0_2) (h : laws_heldBuf.f k a0_0 l0_1 l0_2 a0_3 a1 = some r) :
  Calls Try.prog 94 #[.agg #[.int .i64 a0_0, .slice A0_1 l0_1.length c0_1, .slice A0_2 l0_2.length c0_2, .int .i64 a0_3], .int .i64 a1] w fun e w' => e = .returned (.int .i64 r) ∧ Below w.heap.size w w' := by
 have hu41 := Try.underlying41
 have HR0_1 := Aside0.mk hr0_1
 have HC0_1 := Aside0.mk hc0_1
 clear hr0_1 hc0_1
 have HR0_2 := Aside0.mk hr0_2
 have HC0_2 := Aside0.mk hc0_2
 clear hr0_2 hc0_2
 have HB := Aside0.mk (Below.refl w.heap.size w)
 have H : ((laws_heldIntS.f k l0_1 a1).bind fun t800 => (if t800 < 0 then (some (-1)) else ((laws_heldIntS.f k l0_2 t800).bind fun t801 => (if t801 < 0 then (some (-1)) else (some t801))))) = some r := h
 clear h
 replace H := Option.bind_eq_some_iff.mp H
 obtain ⟨t800, A30, H⟩ := H
 replace H : (if t800 < 0 then (some (-1)) else ((laws_heldIntS.f k l0_2 t800).bind fun t801 => (if t801 < 0 then (some (-1)) else (some t801)))) = some r := H
 have A3 := Aside0.mk A30
 clear A30
 by_cases c4 : t800 < 0
 ·rw [if_pos c4] at H
  have c4b0 : decide (t800 < 0) = true := decide_eq_true c4
  clear c4
  obtain rfl := Option.some.inj H
  go_enter Try.func94, Try.ntmps94
  go_wp2_with (first | ((with_reducible refine gate_dst (N := 2) rfl ?_); refine box_event ?hg (N := 2) ?hd (cs := #[.int .i64 a0_0, .slice A0_1 l0_1.length c0_1, .slice A0_2 l0_2.length c0_2, .int .i64 a0_3]) (t := 41) ?hr ?_; (case hd => rfl); (case hg => rfl); (case hr => first | (go_simp; done) | (go_simp; rfl)); intro gb799 hg w5 hbox hb; have n0_ := Aside0.mk (below_step (by repeat (first | (with_reducible first | exact HB.out | apply below_alloc | apply pw_below_drewN | apply below_drew1) | exact HB.out)) hb); have n1_ := Aside0.mk (hbox); have n2_ := Aside0.mk ((by rw [hg]; exact (below_size (by repeat (first | (with_reducible first | exact HB.out | apply below_alloc | apply pw_below_drewN | apply below_drew1) | exact HB.out))) : w.heap.size ≤ gb799)); have n3_ := Aside0.mk ((by rw [hg]; exact (below_size (by repeat (first | (with_reducible first | exact HB.out | apply below_alloc | apply pw_below_drewN | apply below_drew1) | exact HB.out))) : w.heap.size ≤ gb799)); clear HB; have HB := n0_; have BK799 := n1_; have GW799 := n2_; have GE799 := n3_; clear n0_ n1_ n2_ n3_; clear hb hbox hg; have hcz6_0 : w5.cell? ⟨gb799, 0, none⟩ = some (.int .i64 a0_0) := (blk_cell BK799.out 0).trans rfl; have hcz6_1 : w5.cell? ⟨gb799, 1, none⟩ = some (.slice A0_1 l0_1.length c0_1) := (blk_cell BK799.out 1).trans rfl; have hcz6_2 : w5.cell? ⟨gb799, 2, none⟩ = some (.slice A0_2 l0_2.length c0_2) := (blk_cell BK799.out 2).trans rfl; have hcz6_3 : w5.cell? ⟨gb799, 3, none⟩ = some (.int .i64 a0_3) := (blk_cell BK799.out 3).trans rfl; have hfz6_0 := blk_frozen BK799.out 0; have hfz6_1 := blk_frozen BK799.out 1; have hfz6_2 := blk_frozen BK799.out 2; have hfz6_3 := blk_frozen BK799.out 3) | ((with_reducible refine gate_callee (f := 33) rfl ?_); refine goesL_ (some 8) rfl rfl Try.func33 (by kernel_rfl) rfl #[.slice A0_1 l0_1.length c0_1, .int .i64 a1] rfl (by (try simp only [List.map_toArray, List.map_cons, List.map_nil]); first | done | rfl | (simp only [List.length_drop, List.length_take]; rfl)) ?_; (with_reducible refine (laws_heldIntS.calls k _ _ l0_1 a1 t800 _ ?side1 ?side2 A3.out).mono ?_); (case side1 => repeat (first | exact (Kd.C_below HR0_1.out HB.out) | (with_reducible refine Kd.C_alloc ?_ _) | (with_reducible refine Kd.C_drewN ?_ _) | (with_reducible refine Kd.C_drew ?_))); (case side2 => exact HC0_1.out); rintro e w' ⟨rfl, ⟨nd, rfl⟩⟩; refine ⟨_, rfl, ?_⟩))
  go_ret
  exact ⟨by first | rfl | (simp [errW_none, errW_some] <;> rfl) | (simp [*, errW_none, errW_some] <;> rfl), by repeat (first | (with_reducible first | exact HB.out | apply below_alloc | apply pw_below_drewN | apply below_drew1 | refine below_set ?_ GE799.out) | exact HB.out)⟩
 ·rw [if_neg c4] at H
  have c4b0 : decide (t800 < 0) = false := decide_eq_false c4
  clear c4
  replace H := Option.bind_eq_some_iff.mp H
  obtain ⟨t801, A70, H⟩ := H
  replace H : (if t801 < 0 then (some (-1)) else (some t801)) = some r := H
  have A7 := Aside0.mk A70
  clear A70
  by_cases c8 : t801 < 0
  ·rw [if_pos c8] at H
   have c8b0 : decide (t801 < 0) = true := decide_eq_true c8
   clear c8
   obtain rfl := Option.some.inj H
   go_enter Try.func94, Try.ntmps94
   go_wp2_with (first | ((with_reducible refine gate_dst (N := 2) rfl ?_); refine box_event ?hg (N := 2) ?hd (cs := #[.int .i64 a0_0, .slice A0_1 l0_1.length c0_1, .slice A0_2 l0_2.length c0_2, .int .i64 a0_3]) (t := 41) ?hr ?_; (case hd => rfl); (case hg => rfl); (case hr => first | (go_simp; done) | (go_simp; rfl)); intro gb799 hg w9 hbox hb; have n0_ := Aside0.mk (below_step (by repeat (first | (with_reducible first | exact HB.out | apply below_alloc | apply pw_below_drewN | apply below_drew1) | exact HB.out)) hb); have n1_ := Aside0.mk (hbox); have n2_ := Aside0.mk ((by rw [hg]; exact (below_size (by repeat (first | (with_reducible first | exact HB.out | apply below_alloc | apply pw_below_drewN | apply below_drew1) | exact HB.out))) : w.heap.size ≤ gb799)); have n3_ := Aside0.mk ((by rw [hg]; exact (below_size (by repeat (first | (with_reducible first | exact HB.out | apply below_alloc | apply pw_below_drewN | apply below_drew1) | exact HB.out))) : w.heap.size ≤ gb799)); clear HB; have HB := n0_; have BK799 := n1_; have GW799 := n2_; have GE799 := n3_; clear n0_ n1_ n2_ n3_; clear hb hbox hg; have hcz10_0 : w9.cell? ⟨gb799, 0, none⟩ = some (.int .i64 a0_0) := (blk_cell BK799.out 0).trans rfl; have hcz10_1 : w9.cell? ⟨gb799, 1, none⟩ = some (.slice A0_1 l0_1.length c0_1) := (blk_cell BK799.out 1).trans rfl; have hcz10_2 : w9.cell? ⟨gb799, 2, none⟩ = some (.slice A0_2 l0_2.length c0_2) := (blk_cell BK799.out 2).trans rfl; have hcz10_3 : w9.cell? ⟨gb799, 3, none⟩ = some (.int .i64 a0_3) := (blk_cell BK799.out 3).trans rfl; have hfz10_0 := blk_frozen BK799.out 0; have hfz10_1 := blk_frozen BK799.out 1; have hfz10_2 := blk_frozen BK799.out 2; have hfz10_3 := blk_frozen BK799.out 3) | ((with_reducible refine gate_callee (f := 33) rfl ?_); refine goesL_ (some 8) rfl rfl Try.func33 (by kernel_rfl) rfl #[.slice A0_1 l0_1.length c0_1, .int .i64 a1] rfl (by (try simp only [List.map_toArray, List.map_cons, List.map_nil]); first | done | rfl | (simp only [List.length_drop, List.length_take]; rfl)) ?_; (with_reducible refine (laws_heldIntS.calls k _ _ l0_1 a1 t800 _ ?side1 ?side2 A3.out).mono ?_); (case side1 => repeat (first | exact (Kd.C_below HR0_1.out HB.out) | (with_reducible refine Kd.C_alloc ?_ _) | (with_reducible refine Kd.C_drewN ?_ _) | (with_reducible refine Kd.C_drew ?_))); (case side2 => exact HC0_1.out); rintro e w' ⟨rfl, ⟨nd, rfl⟩⟩; refine ⟨_, rfl, ?_⟩) | ((with_reducible refine gate_callee (f := 33) rfl ?_); refine goesL_ (some 14) rfl rfl Try.func33 (by kernel_rfl) rfl #[.slice A0_2 l0_2.length c0_2, .int .i64 t800] rfl (by (try simp only [List.map_toArray, List.map_cons, List.map_nil]); first | done | rfl | (simp only [List.length_drop, List.length_take]; rfl)) ?_; (with_reducible refine (laws_heldIntS.calls k _ _ l0_2 t800 t801 _ ?side1 ?side2 A7.out).mono ?_); (case side1 => repeat (first | exact (Kd.C_below HR0_2.out (by repeat (first | (with_reducible first | exact HB.out | apply below_alloc | apply pw_below_drewN | apply below_drew1 | refine below_set ?_ GE799.out) | exact HB.out))) | (with_reducible refine Kd.C_alloc ?_ _) | (with_reducible refine Kd.C_drewN ?_ _) | (with_reducible refine Kd.C_drew ?_))); (case side2 => exact HC0_2.out); rintro e w' ⟨rfl, ⟨nd, rfl⟩⟩; refine ⟨_, rfl, ?_⟩))
   go_ret
   exact ⟨by first | rfl | (simp [errW_none, errW_some] <;> rfl) | (simp [*, errW_none, errW_some] <;> rfl), by repeat (first | (with_reducible first | exact HB.out | apply below_alloc | apply pw_below_drewN | apply below_drew1 | refine below_set ?_ GE799.out) | exact HB.out)⟩
  ·rw [if_neg c8] at H
   have c8b0 : decide (t801 < 0) = false := decide_eq_false c8
   clear c8
   obtain rfl := Option.some.inj H
   go_enter Try.func94, Try.ntmps94
   go_wp2_with (first | ((with_reducible refine gate_dst (N := 2) rfl ?_); refine box_event ?hg (N := 2) ?hd (cs := #[.int .i64 a0_0, .slice A0_1 l0_1.length c0_1, .slice A0_2 l0_2.length c0_2, .int .i64 a0_3]) (t := 41) ?hr ?_; (case hd => rfl); (case hg => rfl); (case hr => first | (go_simp; done) | (go_simp; rfl)); intro gb799 hg w11 hbox hb; have n0_ := Aside0.mk (below_step (by repeat (first | (with_reducible first | exact HB.out | apply below_alloc | apply pw_below_drewN | apply below_drew1) | exact HB.out)) hb); have n1_ := Aside0.mk (hbox); have n2_ := Aside0.mk ((by rw [hg]; exact (below_size (by repeat (first | (with_reducible first | exact HB.out | apply below_alloc | apply pw_below_drewN | apply below_drew1) | exact HB.out))) : w.heap.size ≤ gb799)); have n3_ := Aside0.mk ((by rw [hg]; exact (below_size (by repeat (first | (with_reducible first | exact HB.out | apply below_alloc | apply pw_below_drewN | apply below_drew1) | exact HB.out))) : w.heap.size ≤ gb799)); clear HB; have HB := n0_; have BK799 := n1_; have GW799 := n2_; have GE799 := n3_; clear n0_ n1_ n2_ n3_; clear hb hbox hg; have hcz12_0 : w11.cell? ⟨gb799, 0, none⟩ = some (.int .i64 a0_0) := (blk_cell BK799.out 0).trans rfl; have hcz12_1 : w11.cell? ⟨gb799, 1, none⟩ = some (.slice A0_1 l0_1.length c0_1) := (blk_cell BK799.out 1).trans rfl; have hcz12_2 : w11.cell? ⟨gb799, 2, none⟩ = some (.slice A0_2 l0_2.length c0_2) := (blk_cell BK799.out 2).trans rfl; have hcz12_3 : w11.cell? ⟨gb799, 3, none⟩ = some (.int .i64 a0_3) := (blk_cell BK799.out 3).trans rfl; have hfz12_0 := blk_frozen BK799.out 0; have hfz12_1 := blk_frozen BK799.out 1; have hfz12_2 := blk_frozen BK799.out 2; have hfz12_3 := blk_frozen BK799.out 3) | ((with_reducible refine gate_callee (f := 33) rfl ?_); refine goesL_ (some 8) rfl rfl Try.func33 (by kernel_rfl) rfl #[.slice A0_1 l0_1.length c0_1, .int .i64 a1] rfl (by (try simp only [List.map_toArray, List.map_cons, List.map_nil]); first | done | rfl | (simp only [List.length_drop, List.length_take]; rfl)) ?_; (with_reducible refine (laws_heldIntS.calls k _ _ l0_1 a1 t800 _ ?side1 ?side2 A3.out).mono ?_); (case side1 => repeat (first | exact (Kd.C_below HR0_1.out HB.out) | (with_reducible refine Kd.C_alloc ?_ _) | (with_reducible refine Kd.C_drewN ?_ _) | (with_reducible refine Kd.C_drew ?_))); (case side2 => exact HC0_1.out); rintro e w' ⟨rfl, ⟨nd, rfl⟩⟩; refine ⟨_, rfl, ?_⟩) | ((with_reducible refine gate_callee (f := 33) rfl ?_); refine goesL_ (some 14) rfl rfl Try.func33 (by kernel_rfl) rfl #[.slice A0_2 l0_2.length c0_2, .int .i64 t800] rfl (by (try simp only [List.map_toArray, List.map_cons, List.map_nil]); first | done | rfl | (simp only [List.length_drop, List.length_take]; rfl)) ?_; (with_reducible refine (laws_heldIntS.calls k _ _ l0_2 t800 t801 _ ?side1 ?side2 A7.out).mono ?_); (case side1 => repeat (first | exact (Kd.C_below HR0_2.out (by repeat (first | (with_reducible first | exact HB.out | apply below_alloc | apply pw_below_drewN | apply below_drew1 | refine below_set ?_ GE799.out) | exact HB.out))) | (with_reducible refine Kd.C_alloc ?_ _) | (with_reducible refine Kd.C_drewN ?_ _) | (with_reducible refine Kd.C_drew ?_))); (case side2 => exact HC0_2.out); rintro e w' ⟨rfl, ⟨nd, rfl⟩⟩; refine ⟨_, rfl, ?_⟩))
   go_ret
   exact ⟨by first | rfl | (simp [errW_none, errW_some] <;> rfl) | (simp [*, errW_none, errW_some] <;> rfl), by repeat (first | (with_reducible first | exact HB.out | apply below_alloc | apply pw_below_drewN | apply below_drew1 | refine below_set ?_ GE799.out) | exact HB.out)⟩

/-! ### laws_heldSession: function 53 -/
abbrev tt76 : Bool := true
abbrev ff76 : Bool := false
def laws_heldSession.f (k : Nat) (a0_0 : Int) (a0_1 : Int) (a0_2 : Int) (a0_3 : ByteArray) (a0_4 : Int) (l0_5 : List Int) (l0_6 : List Int) (a0_7 : Int) (a0_8 : Bool) (a1 : Int) : Option (Int) := (laws_heldBuf.f k a0_4 l0_5 l0_6 a0_7 a1).bind fun t803 => (if t803 < 0 then (some (-1)) else (some t803))
theorem laws_heldSession.mono : ∀ a0 a1 a2 a3 a4 a5 a6 a7 a8 a9 k, LeO (laws_heldSession.f k a0 a1 a2 a3 a4 a5 a6 a7 a8 a9) (laws_heldSession.f (k + 1) a0 a1 a2 a3 a4 a5 a6 a7 a8 a9) := by
 intro a0 a1 a2 a3 a4 a5 a6 a7 a8 a9 k
 unfold laws_heldSession.f
 repeat' first
   | (with_reducible exact laws_heldBuf.mono _ _ _ _ _ _)
   | (with_reducible exact LeO.refl _)
   | (with_reducible exact LeO.none _)
   | (with_reducible refine LeO.ite ?_ ?_)
   | (with_reducible refine LeO.bind ?_ (fun _ => ?_))
   | exact laws_heldBuf.mono _ _ _ _ _ _
   | exact LeO.none _
   | refine LeO.ite ?_ ?_
   | refine LeO.bind ?_ (fun _ => ?_)
set_option maxHeartbeats 8000000 in
set_option maxRecDepth 100000 in
theorem laws_heldSession.calls (k : Nat) (a0_0 : Int) (a0_1 : Int) (a0_2 : Int) (a0_3 : ByteArray) (a0_4 : Int) (A0_5 : Option Addr) (c0_5 : Nat) (l0_5 : List Int) (A0_6 : Option Addr) (c0_6 : Nat) (l0_6 : List Int) (a0_7 : Int) (a0_8 : Bool) (a1 : Int) (r : Int) (w : World) (hr0_5 : Kd.C (Kd.int .i64) w A0_5 l0_5.length l0_5) (hc0_5 : l0_5.length ≤ c0_5) (hr0_6 : Kd.C (Kd.int .i64) w A0_6 l0_6.length l0_6) (hc0_6 : l0_6.length ≤ c0_6) (h : laws_heldSession.f k a0_0 a0_1 a0_2 a0_3 a0_4 l0_5 l0_6 a0_7 a0_8 a1 = some r) :
  Calls Try.prog 53 #[.agg #[.int .i64 a0_0, .int .i64 a0_1, .int .i64 a0_2, .string a0_3, .int .i64 a0_4, .slice A0_5 l0_5.length c0_5, .slice A0_6 l0_6.length c0_6, .int .i64 a0_7, .bool a0_8], .int .i64 a1] w fun e w' => e = .returned (.int .i64 r) ∧ Below w.heap.size w w' := by
 have hu70 := Try.underlying70
 have hu41 := Try.underlying41
 have HR0_5 := Aside0.mk hr0_5
 have HC0_5 := Aside0.mk hc0_5
 clear hr0_5 hc0_5
 have HR0_6 := Aside0.mk hr0_6
 have HC0_6 := Aside0.mk hc0_6
 clear hr0_6 hc0_6
 have HB := Aside0.mk (Below.refl w.heap.size w)
 have H : ((laws_heldBuf.f k a0_4 l0_5 l0_6 a0_7 a1).bind fun t803 => (if t803 < 0 then (some (-1)) else (some t803))) = some r := h
 clear h
 replace H := Option.bind_eq_some_iff.mp H
 obtain ⟨t803, A30, H⟩ := H
 replace H : (if t803 < 0 then (some (-1)) else (some t803)) = some r := H
 have A3 := Aside0.mk A30
 clear A30
 by_cases c4 : t803 < 0
 ·rw [if_pos c4] at H
  have c4b0 : decide (t803 < 0) = true := decide_eq_true c4
  clear c4
  obtain rfl := Option.some.inj H
  go_enter Try.func53, Try.ntmps53
  go_wp2_with (first | ((with_reducible refine gate_dst (N := 2) rfl ?_); refine box_event ?hg (N := 2) ?hd (cs := #[.int .i64 a0_0, .int .i64 a0_1, .int .i64 a0_2, .string a0_3, .int .i64 a0_4, .slice A0_5 l0_5.length c0_5, .slice A0_6 l0_6.length c0_6, .int .i64 a0_7, .bool a0_8]) (t := 70) ?hr ?_; (case hd => rfl); (case hg => rfl); (case hr => first | (go_simp; done) | (go_simp; rfl)); intro gb802 hg w5 hbox hb; have n0_ := Aside0.mk (below_step (by repeat (first | (with_reducible first | exact HB.out | apply below_alloc | apply pw_below_drewN | apply below_drew1) | exact HB.out)) hb); have n1_ := Aside0.mk (hbox); have n2_ := Aside0.mk ((by rw [hg]; exact (below_size (by repeat (first | (with_reducible first | exact HB.out | apply below_alloc | apply pw_below_drewN | apply below_drew1) | exact HB.out))) : w.heap.size ≤ gb802)); have n3_ := Aside0.mk ((by rw [hg]; exact (below_size (by repeat (first | (with_reducible first | exact HB.out | apply below_alloc | apply pw_below_drewN | apply below_drew1) | exact HB.out))) : w.heap.size ≤ gb802)); clear HB; have HB := n0_; have BK802 := n1_; have GW802 := n2_; have GE802 := n3_; clear n0_ n1_ n2_ n3_; clear hb hbox hg; have hcz6_0 : w5.cell? ⟨gb802, 0, none⟩ = some (.int .i64 a0_0) := (blk_cell BK802.out 0).trans rfl; have hcz6_1 : w5.cell? ⟨gb802, 1, none⟩ = some (.int .i64 a0_1) := (blk_cell BK802.out 1).trans rfl; have hcz6_2 : w5.cell? ⟨gb802, 2, none⟩ = some (.int .i64 a0_2) := (blk_cell BK802.out 2).trans rfl; have hcz6_3 : w5.cell? ⟨gb802, 3, none⟩ = some (.string a0_3) := (blk_cell BK802.out 3).trans rfl; have hcz6_4 : w5.cell? ⟨gb802, 4, none⟩ = some (.int .i64 a0_4) := (blk_cell BK802.out 4).trans rfl; have hcz6_5 : w5.cell? ⟨gb802, 5, none⟩ = some (.slice A0_5 l0_5.length c0_5) := (blk_cell BK802.out 5).trans rfl; have hcz6_6 : w5.cell? ⟨gb802, 6, none⟩ = some (.slice A0_6 l0_6.length c0_6) := (blk_cell BK802.out 6).trans rfl; have hcz6_7 : w5.cell? ⟨gb802, 7, none⟩ = some (.int .i64 a0_7) := (blk_cell BK802.out 7).trans rfl; have hcz6_8 : w5.cell? ⟨gb802, 8, none⟩ = some (.bool a0_8) := (blk_cell BK802.out 8).trans rfl; have hfz6_0 := blk_frozen BK802.out 0; have hfz6_1 := blk_frozen BK802.out 1; have hfz6_2 := blk_frozen BK802.out 2; have hfz6_3 := blk_frozen BK802.out 3; have hfz6_4 := blk_frozen BK802.out 4; have hfz6_5 := blk_frozen BK802.out 5; have hfz6_6 := blk_frozen BK802.out 6; have hfz6_7 := blk_frozen BK802.out 7; have hfz6_8 := blk_frozen BK802.out 8) | ((with_reducible refine gate_callee (f := 94) rfl ?_); refine goesL_ (some 8) rfl rfl Try.func94 (by kernel_rfl) rfl #[.agg #[.int .i64 a0_4, .slice A0_5 l0_5.length c0_5, .slice A0_6 l0_6.length c0_6, .int .i64 a0_7], .int .i64 a1] rfl (by (try simp only [List.map_toArray, List.map_cons, List.map_nil]); first | done | rfl | (simp only [List.length_drop, List.length_take]; rfl)) ?_; (with_reducible refine (laws_heldBuf.calls k a0_4 _ _ l0_5 _ _ l0_6 a0_7 a1 t803 _ ?side1 ?side2 ?side3 ?side4 A3.out).mono ?_); (case side1 => repeat (first | exact (Kd.C_below HR0_5.out HB.out) | (with_reducible refine Kd.C_alloc ?_ _) | (with_reducible refine Kd.C_drewN ?_ _) | (with_reducible refine Kd.C_drew ?_))); (case side2 => exact HC0_5.out); (case side3 => repeat (first | exact (Kd.C_below HR0_6.out HB.out) | (with_reducible refine Kd.C_alloc ?_ _) | (with_reducible refine Kd.C_drewN ?_ _) | (with_reducible refine Kd.C_drew ?_))); (case side4 => exact HC0_6.out); rintro e w7 ⟨rfl, hb⟩; refine ⟨_, rfl, ?_⟩; have n0_ := Aside0.mk (blk_below (g := gb802) (o := .cells #[.int .i64 a0_0, .int .i64 a0_1, .int .i64 a0_2, .string a0_3, .int .i64 a0_4, .slice A0_5 l0_5.length c0_5, .slice A0_6 l0_6.length c0_6, .int .i64 a0_7, .bool a0_8] 70 (0, 0)) (by (with_reducible repeat (first | refine blk_drewN ?_ _ | refine blk_drew ?_ | refine blk_alloc ?_ _)); exact BK802.out) hb); have n1_ := Aside0.mk (below_step (by repeat (first | (with_reducible first | exact HB.out | apply below_alloc | apply pw_below_drewN | apply below_drew1 | refine below_set ?_ GE802.out) | exact HB.out)) hb); clear BK802; clear HB; have BK802 := n0_; have HB := n1_; clear n0_ n1_; (try clear hb); (try clear hb2); (try clear hk); (try clear hi)))
  go_ret
  exact ⟨by first | rfl | (simp [errW_none, errW_some] <;> rfl) | (simp [*, errW_none, errW_some] <;> rfl), by repeat (first | (with_reducible first | exact HB.out | apply below_alloc | apply pw_below_drewN | apply below_drew1 | refine below_set ?_ GE802.out) | exact HB.out)⟩
 ·rw [if_neg c4] at H
  have c4b0 : decide (t803 < 0) = false := decide_eq_false c4
  clear c4
  obtain rfl := Option.some.inj H
  go_enter Try.func53, Try.ntmps53
  go_wp2_with (first | ((with_reducible refine gate_dst (N := 2) rfl ?_); refine box_event ?hg (N := 2) ?hd (cs := #[.int .i64 a0_0, .int .i64 a0_1, .int .i64 a0_2, .string a0_3, .int .i64 a0_4, .slice A0_5 l0_5.length c0_5, .slice A0_6 l0_6.length c0_6, .int .i64 a0_7, .bool a0_8]) (t := 70) ?hr ?_; (case hd => rfl); (case hg => rfl); (case hr => first | (go_simp; done) | (go_simp; rfl)); intro gb802 hg w8 hbox hb; have n0_ := Aside0.mk (below_step (by repeat (first | (with_reducible first | exact HB.out | apply below_alloc | apply pw_below_drewN | apply below_drew1) | exact HB.out)) hb); have n1_ := Aside0.mk (hbox); have n2_ := Aside0.mk ((by rw [hg]; exact (below_size (by repeat (first | (with_reducible first | exact HB.out | apply below_alloc | apply pw_below_drewN | apply below_drew1) | exact HB.out))) : w.heap.size ≤ gb802)); have n3_ := Aside0.mk ((by rw [hg]; exact (below_size (by repeat (first | (with_reducible first | exact HB.out | apply below_alloc | apply pw_below_drewN | apply below_drew1) | exact HB.out))) : w.heap.size ≤ gb802)); clear HB; have HB := n0_; have BK802 := n1_; have GW802 := n2_; have GE802 := n3_; clear n0_ n1_ n2_ n3_; clear hb hbox hg; have hcz9_0 : w8.cell? ⟨gb802, 0, none⟩ = some (.int .i64 a0_0) := (blk_cell BK802.out 0).trans rfl; have hcz9_1 : w8.cell? ⟨gb802, 1, none⟩ = some (.int .i64 a0_1) := (blk_cell BK802.out 1).trans rfl; have hcz9_2 : w8.cell? ⟨gb802, 2, none⟩ = some (.int .i64 a0_2) := (blk_cell BK802.out 2).trans rfl; have hcz9_3 : w8.cell? ⟨gb802, 3, none⟩ = some (.string a0_3) := (blk_cell BK802.out 3).trans rfl; have hcz9_4 : w8.cell? ⟨gb802, 4, none⟩ = some (.int .i64 a0_4) := (blk_cell BK802.out 4).trans rfl; have hcz9_5 : w8.cell? ⟨gb802, 5, none⟩ = some (.slice A0_5 l0_5.length c0_5) := (blk_cell BK802.out 5).trans rfl; have hcz9_6 : w8.cell? ⟨gb802, 6, none⟩ = some (.slice A0_6 l0_6.length c0_6) := (blk_cell BK802.out 6).trans rfl; have hcz9_7 : w8.cell? ⟨gb802, 7, none⟩ = some (.int .i64 a0_7) := (blk_cell BK802.out 7).trans rfl; have hcz9_8 : w8.cell? ⟨gb802, 8, none⟩ = some (.bool a0_8) := (blk_cell BK802.out 8).trans rfl; have hfz9_0 := blk_frozen BK802.out 0; have hfz9_1 := blk_frozen BK802.out 1; have hfz9_2 := blk_frozen BK802.out 2; have hfz9_3 := blk_frozen BK802.out 3; have hfz9_4 := blk_frozen BK802.out 4; have hfz9_5 := blk_frozen BK802.out 5; have hfz9_6 := blk_frozen BK802.out 6; have hfz9_7 := blk_frozen BK802.out 7; have hfz9_8 := blk_frozen BK802.out 8) | ((with_reducible refine gate_callee (f := 94) rfl ?_); refine goesL_ (some 8) rfl rfl Try.func94 (by kernel_rfl) rfl #[.agg #[.int .i64 a0_4, .slice A0_5 l0_5.length c0_5, .slice A0_6 l0_6.length c0_6, .int .i64 a0_7], .int .i64 a1] rfl (by (try simp only [List.map_toArray, List.map_cons, List.map_nil]); first | done | rfl | (simp only [List.length_drop, List.length_take]; rfl)) ?_; (with_reducible refine (laws_heldBuf.calls k a0_4 _ _ l0_5 _ _ l0_6 a0_7 a1 t803 _ ?side1 ?side2 ?side3 ?side4 A3.out).mono ?_); (case side1 => repeat (first | exact (Kd.C_below HR0_5.out HB.out) | (with_reducible refine Kd.C_alloc ?_ _) | (with_reducible refine Kd.C_drewN ?_ _) | (with_reducible refine Kd.C_drew ?_))); (case side2 => exact HC0_5.out); (case side3 => repeat (first | exact (Kd.C_below HR0_6.out HB.out) | (with_reducible refine Kd.C_alloc ?_ _) | (with_reducible refine Kd.C_drewN ?_ _) | (with_reducible refine Kd.C_drew ?_))); (case side4 => exact HC0_6.out); rintro e w10 ⟨rfl, hb⟩; refine ⟨_, rfl, ?_⟩; have n0_ := Aside0.mk (blk_below (g := gb802) (o := .cells #[.int .i64 a0_0, .int .i64 a0_1, .int .i64 a0_2, .string a0_3, .int .i64 a0_4, .slice A0_5 l0_5.length c0_5, .slice A0_6 l0_6.length c0_6, .int .i64 a0_7, .bool a0_8] 70 (0, 0)) (by (with_reducible repeat (first | refine blk_drewN ?_ _ | refine blk_drew ?_ | refine blk_alloc ?_ _)); exact BK802.out) hb); have n1_ := Aside0.mk (below_step (by repeat (first | (with_reducible first | exact HB.out | apply below_alloc | apply pw_below_drewN | apply below_drew1 | refine below_set ?_ GE802.out) | exact HB.out)) hb); clear BK802; clear HB; have BK802 := n0_; have HB := n1_; clear n0_ n1_; (try clear hb); (try clear hb2); (try clear hk); (try clear hi)))
  go_ret
  exact ⟨by first | rfl | (simp [errW_none, errW_some] <;> rfl) | (simp [*, errW_none, errW_some] <;> rfl), by repeat (first | (with_reducible first | exact HB.out | apply below_alloc | apply pw_below_drewN | apply below_drew1 | refine below_set ?_ GE802.out) | exact HB.out)⟩

/-! ### laws_FnExactNewSession: function 13 -/
abbrev tt77 : Bool := true
abbrev ff77 : Bool := false
mutual
def laws_FnExactNewSession.j0 : Nat → Int → Int → Bool → Bool → Int → Int → Int → ByteArray → Int → List Int → List Int → Int → Bool → Int → Int → Int → ByteArray → Int → List Int → List Int → Int → Bool → Option (Bool)
 | 0, _, _, _, _, _, _, _, _, _, _, _, _, _, _, _, _, _, _, _, _, _, _ => none
 | k + 1, x0, x1, x6, x33, x819000, x819001, x819002, x819003, x819004, x819005, x819006, x819007, x819008, x834000, x834001, x834002, x834003, x834004, x834005, x834006, x834007, x834008 => if x33 = true then (some false) else ((laws_markSession.f k x834000 x834001 x834002 x834003 x834004 x834005 x834006 x834007 x834008 1).bind fun bt835 => ((laws_heldSession.f k x834000 x834001 x834002 x834003 x834004 bt835.2.1 bt835.2.2 x834007 x834008 1).bind fun t838 => (if t838 < 0 then (some false) else (if t838 = bt835.1 then ((impl_NewSession.f x0 x1).bind fun bt839 => ((laws_eqSession.f k bt839.1 bt839.2.1 bt839.2.2.1 bt839.2.2.2.1 bt839.2.2.2.2.1 bt839.2.2.2.2.2.1 bt839.2.2.2.2.2.2.1 bt839.2.2.2.2.2.2.2.1 bt839.2.2.2.2.2.2.2.2.1 x819000 x819001 x819002 x819003 x819004 x819005 x819006 x819007 x819008).bind fun t854 => (if t854 = true then (laws_FnExactNewSession.j1 k bt835.1 (bt839.2.2.2.2.2.2.2.2.2 != x6) x834000 x834001 x834002 x834003 x834004 bt835.2.1 bt835.2.2 x834007 x834008) else (laws_FnExactNewSession.j1 k bt835.1 true x834000 x834001 x834002 x834003 x834004 bt835.2.1 bt835.2.2 x834007 x834008)))) else (some false)))))
def laws_FnExactNewSession.j1 : Nat → Int → Bool → Int → Int → Int → ByteArray → Int → List Int → List Int → Int → Bool → Option (Bool)
 | 0, _, _, _, _, _, _, _, _, _, _, _ => none
 | k + 1, x9, x59, x834000, x834001, x834002, x834003, x834004, x834005, x834006, x834007, x834008 => if x59 = true then (some false) else ((laws_heldSession.f k x834000 x834001 x834002 x834003 x834004 x834005 x834006 x834007 x834008 1).bind fun t855 => (if t855 < 0 then (some false) else (if t855 = x9 then (some true) else (some false))))
end
def laws_FnExactNewSession.f (k : Nat) (a0 : Int) (a1 : Int) : Option (Bool) := (spec_NewSession.f k a0 a1).bind fun bt804 => ((impl_NewSession.f a0 a1).bind fun bt819 => ((laws_eqSession.f k bt819.1 bt819.2.1 bt819.2.2.1 bt819.2.2.2.1 bt819.2.2.2.2.1 bt819.2.2.2.2.2.1 bt819.2.2.2.2.2.2.1 bt819.2.2.2.2.2.2.2.1 bt819.2.2.2.2.2.2.2.2.1 bt804.1 bt804.2.1 bt804.2.2.1 bt804.2.2.2.1 bt804.2.2.2.2.1 bt804.2.2.2.2.2.1 bt804.2.2.2.2.2.2.1 bt804.2.2.2.2.2.2.2.1 bt804.2.2.2.2.2.2.2.2.1).bind fun t834 => (if t834 = true then (laws_FnExactNewSession.j0 k a0 a1 bt804.2.2.2.2.2.2.2.2.2 (bt819.2.2.2.2.2.2.2.2.2 != bt804.2.2.2.2.2.2.2.2.2) bt804.1 bt804.2.1 bt804.2.2.1 bt804.2.2.2.1 bt804.2.2.2.2.1 bt804.2.2.2.2.2.1 bt804.2.2.2.2.2.2.1 bt804.2.2.2.2.2.2.2.1 bt804.2.2.2.2.2.2.2.2.1 bt819.1 bt819.2.1 bt819.2.2.1 bt819.2.2.2.1 bt819.2.2.2.2.1 bt819.2.2.2.2.2.1 bt819.2.2.2.2.2.2.1 bt819.2.2.2.2.2.2.2.1 bt819.2.2.2.2.2.2.2.2.1) else (laws_FnExactNewSession.j0 k a0 a1 bt804.2.2.2.2.2.2.2.2.2 true bt804.1 bt804.2.1 bt804.2.2.1 bt804.2.2.2.1 bt804.2.2.2.2.1 bt804.2.2.2.2.2.1 bt804.2.2.2.2.2.2.1 bt804.2.2.2.2.2.2.2.1 bt804.2.2.2.2.2.2.2.2.1 bt819.1 bt819.2.1 bt819.2.2.1 bt819.2.2.2.1 bt819.2.2.2.2.1 bt819.2.2.2.2.2.1 bt819.2.2.2.2.2.2.1 bt819.2.2.2.2.2.2.2.1 bt819.2.2.2.2.2.2.2.2.1))))
theorem laws_FnExactNewSession.mono_l : ∀ k, (∀ y0 y1 y2 y3 y4 y5 y6 y7 y8 y9 y10 y11 y12 y13 y14 y15 y16 y17 y18 y19 y20 y21, LeO (laws_FnExactNewSession.j0 k y0 y1 y2 y3 y4 y5 y6 y7 y8 y9 y10 y11 y12 y13 y14 y15 y16 y17 y18 y19 y20 y21) (laws_FnExactNewSession.j0 (k + 1) y0 y1 y2 y3 y4 y5 y6 y7 y8 y9 y10 y11 y12 y13 y14 y15 y16 y17 y18 y19 y20 y21)) ∧ (∀ y0 y1 y2 y3 y4 y5 y6 y7 y8 y9 y10, LeO (laws_FnExactNewSession.j1 k y0 y1 y2 y3 y4 y5 y6 y7 y8 y9 y10) (laws_FnExactNewSession.j1 (k + 1) y0 y1 y2 y3 y4 y5 y6 y7 y8 y9 y10))
 | 0 => ⟨fun _ _ _ _ _ _ _ _ _ _ _ _ _ _ _ _ _ _ _ _ _ _ r h => by simp [laws_FnExactNewSession.j0] at h, fun _ _ _ _ _ _ _ _ _ _ _ r h => by simp [laws_FnExactNewSession.j1] at h⟩
 | k + 1 => by
  obtain ⟨ih0, ih1⟩ := laws_FnExactNewSession.mono_l k
  refine ⟨?_, ?_⟩
  ·intro y0 y1 y2 y3 y4 y5 y6 y7 y8 y9 y10 y11 y12 y13 y14 y15 y16 y17 y18 y19 y20 y21
   unfold laws_FnExactNewSession.j0
   repeat' first
   | (with_reducible exact ih0 _ _ _ _ _ _ _ _ _ _ _ _ _ _ _ _ _ _ _ _ _ _)
   | (with_reducible exact ih1 _ _ _ _ _ _ _ _ _ _ _)
   | (with_reducible exact laws_eqSession.mono _ _ _ _ _ _ _ _ _ _ _ _ _ _ _ _ _ _ _)
   | (with_reducible exact laws_heldSession.mono _ _ _ _ _ _ _ _ _ _ _)
   | (with_reducible exact laws_markSession.mono _ _ _ _ _ _ _ _ _ _ _)
   | (with_reducible exact spec_NewSession.mono _ _ _)
   | (with_reducible exact LeO.refl _)
   | (with_reducible exact LeO.none _)
   | (with_reducible refine LeO.ite ?_ ?_)
   | (with_reducible refine LeO.bind ?_ (fun _ => ?_))
   | exact ih0 _ _ _ _ _ _ _ _ _ _ _ _ _ _ _ _ _ _ _ _ _ _
   | exact ih1 _ _ _ _ _ _ _ _ _ _ _
   | exact laws_eqSession.mono _ _ _ _ _ _ _ _ _ _ _ _ _ _ _ _ _ _ _
   | exact laws_heldSession.mono _ _ _ _ _ _ _ _ _ _ _
   | exact laws_markSession.mono _ _ _ _ _ _ _ _ _ _ _
   | exact spec_NewSession.mono _ _ _
   | exact LeO.none _
   | refine LeO.ite ?_ ?_
   | refine LeO.bind ?_ (fun _ => ?_)
  ·intro y0 y1 y2 y3 y4 y5 y6 y7 y8 y9 y10
   unfold laws_FnExactNewSession.j1
   repeat' first
   | (with_reducible exact ih0 _ _ _ _ _ _ _ _ _ _ _ _ _ _ _ _ _ _ _ _ _ _)
   | (with_reducible exact ih1 _ _ _ _ _ _ _ _ _ _ _)
   | (with_reducible exact laws_eqSession.mono _ _ _ _ _ _ _ _ _ _ _ _ _ _ _ _ _ _ _)
   | (with_reducible exact laws_heldSession.mono _ _ _ _ _ _ _ _ _ _ _)
   | (with_reducible exact laws_markSession.mono _ _ _ _ _ _ _ _ _ _ _)
   | (with_reducible exact spec_NewSession.mono _ _ _)
   | (with_reducible exact LeO.refl _)
   | (with_reducible exact LeO.none _)
   | (with_reducible refine LeO.ite ?_ ?_)
   | (with_reducible refine LeO.bind ?_ (fun _ => ?_))
   | exact ih0 _ _ _ _ _ _ _ _ _ _ _ _ _ _ _ _ _ _ _ _ _ _
   | exact ih1 _ _ _ _ _ _ _ _ _ _ _
   | exact laws_eqSession.mono _ _ _ _ _ _ _ _ _ _ _ _ _ _ _ _ _ _ _
   | exact laws_heldSession.mono _ _ _ _ _ _ _ _ _ _ _
   | exact laws_markSession.mono _ _ _ _ _ _ _ _ _ _ _
   | exact spec_NewSession.mono _ _ _
   | exact LeO.none _
   | refine LeO.ite ?_ ?_
   | refine LeO.bind ?_ (fun _ => ?_)
theorem laws_FnExactNewSession.mono : ∀ a0 a1 k, LeO (laws_FnExactNewSession.f k a0 a1) (laws_FnExactNewSession.f (k + 1) a0 a1) := by
 intro a0 a1 k
 obtain ⟨ih0, ih1⟩ := laws_FnExactNewSession.mono_l k
 unfold laws_FnExactNewSession.f
 repeat' first
   | (with_reducible exact ih0 _ _ _ _ _ _ _ _ _ _ _ _ _ _ _ _ _ _ _ _ _ _)
   | (with_reducible exact ih1 _ _ _ _ _ _ _ _ _ _ _)
   | (with_reducible exact laws_eqSession.mono _ _ _ _ _ _ _ _ _ _ _ _ _ _ _ _ _ _ _)
   | (with_reducible exact laws_heldSession.mono _ _ _ _ _ _ _ _ _ _ _)
   | (with_reducible exact laws_markSession.mono _ _ _ _ _ _ _ _ _ _ _)
   | (with_reducible exact spec_NewSession.mono _ _ _)
   | (with_reducible exact LeO.refl _)
   | (with_reducible exact LeO.none _)
   | (with_reducible refine LeO.ite ?_ ?_)
   | (with_reducible refine LeO.bind ?_ (fun _ => ?_))
   | exact ih0 _ _ _ _ _ _ _ _ _ _ _ _ _ _ _ _ _ _ _ _ _ _
   | exact ih1 _ _ _ _ _ _ _ _ _ _ _
   | exact laws_eqSession.mono _ _ _ _ _ _ _ _ _ _ _ _ _ _ _ _ _ _ _
   | exact laws_heldSession.mono _ _ _ _ _ _ _ _ _ _ _
   | exact laws_markSession.mono _ _ _ _ _ _ _ _ _ _ _
   | exact spec_NewSession.mono _ _ _
   | exact LeO.none _
   | refine LeO.ite ?_ ?_
   | refine LeO.bind ?_ (fun _ => ?_)
set_option maxHeartbeats 8000000 in
set_option maxRecDepth 100000 in
theorem laws_FnExactNewSession.calls (k : Nat) (a0 : Int) (a1 : Int) (r : Bool) (w : World) (h : laws_FnExactNewSession.f k a0 a1 = some r) :
  Calls Try.prog 13 #[.int .i64 a0, .int .i64 a1] w fun e w' => e = .returned (.bool r) ∧ Below w.heap.size w w' := by
 have hu70 := Try.underlying70
 have HB := Aside0.mk (Below.refl w.heap.size w)
 have H : ((spec_NewSession.f k a0 a1).bind fun bt804 => ((impl_NewSession.f a0 a1).bind fun bt819 => ((laws_eqSession.f k bt819.1 bt819.2.1 bt819.2.2.1 bt819.2.2.2.1 bt819.2.2.2.2.1 bt819.2.2.2.2.2.1 bt819.2.2.2.2.2.2.1 bt819.2.2.2.2.2.2.2.1 bt819.2.2.2.2.2.2.2.2.1 bt804.1 bt804.2.1 bt804.2.2.1 bt804.2.2.2.1 bt804.2.2.2.2.1 bt804.2.2.2.2.2.1 bt804.2.2.2.2.2.2.1 bt804.2.2.2.2.2.2.2.1 bt804.2.2.2.2.2.2.2.2.1).bind fun t834 => (if t834 = true then (laws_FnExactNewSession.j0 k a0 a1 bt804.2.2.2.2.2.2.2.2.2 (bt819.2.2.2.2.2.2.2.2.2 != bt804.2.2.2.2.2.2.2.2.2) bt804.1 bt804.2.1 bt804.2.2.1 bt804.2.2.2.1 bt804.2.2.2.2.1 bt804.2.2.2.2.2.1 bt804.2.2.2.2.2.2.1 bt804.2.2.2.2.2.2.2.1 bt804.2.2.2.2.2.2.2.2.1 bt819.1 bt819.2.1 bt819.2.2.1 bt819.2.2.2.1 bt819.2.2.2.2.1 bt819.2.2.2.2.2.1 bt819.2.2.2.2.2.2.1 bt819.2.2.2.2.2.2.2.1 bt819.2.2.2.2.2.2.2.2.1) else (laws_FnExactNewSession.j0 k a0 a1 bt804.2.2.2.2.2.2.2.2.2 true bt804.1 bt804.2.1 bt804.2.2.1 bt804.2.2.2.1 bt804.2.2.2.2.1 bt804.2.2.2.2.2.1 bt804.2.2.2.2.2.2.1 bt804.2.2.2.2.2.2.2.1 bt804.2.2.2.2.2.2.2.2.1 bt819.1 bt819.2.1 bt819.2.2.1 bt819.2.2.2.1 bt819.2.2.2.2.1 bt819.2.2.2.2.2.1 bt819.2.2.2.2.2.2.1 bt819.2.2.2.2.2.2.2.1 bt819.2.2.2.2.2.2.2.2.1))))) = some r := h
 clear h
 replace H := Option.bind_eq_some_iff.mp H
 obtain ⟨⟨t804, t805, t806, t807, t808, t809, t812, t815, t816, t817⟩, A30, H⟩ := H
 replace H : ((impl_NewSession.f a0 a1).bind fun bt819 => ((laws_eqSession.f k bt819.1 bt819.2.1 bt819.2.2.1 bt819.2.2.2.1 bt819.2.2.2.2.1 bt819.2.2.2.2.2.1 bt819.2.2.2.2.2.2.1 bt819.2.2.2.2.2.2.2.1 bt819.2.2.2.2.2.2.2.2.1 t804 t805 t806 t807 t808 t809 t812 t815 t816).bind fun t834 => (if t834 = true then (laws_FnExactNewSession.j0 k a0 a1 t817 (bt819.2.2.2.2.2.2.2.2.2 != t817) t804 t805 t806 t807 t808 t809 t812 t815 t816 bt819.1 bt819.2.1 bt819.2.2.1 bt819.2.2.2.1 bt819.2.2.2.2.1 bt819.2.2.2.2.2.1 bt819.2.2.2.2.2.2.1 bt819.2.2.2.2.2.2.2.1 bt819.2.2.2.2.2.2.2.2.1) else (laws_FnExactNewSession.j0 k a0 a1 t817 true t804 t805 t806 t807 t808 t809 t812 t815 t816 bt819.1 bt819.2.1 bt819.2.2.1 bt819.2.2.2.1 bt819.2.2.2.2.1 bt819.2.2.2.2.2.1 bt819.2.2.2.2.2.2.1 bt819.2.2.2.2.2.2.2.1 bt819.2.2.2.2.2.2.2.2.1)))) = some r := H
 have A3 := Aside0.mk A30
 clear A30
 replace H := Option.bind_eq_some_iff.mp H
 obtain ⟨⟨t819, t820, t821, t822, t823, t824, t827, t830, t831, t832⟩, A40, H⟩ := H
 replace H : ((laws_eqSession.f k t819 t820 t821 t822 t823 t824 t827 t830 t831 t804 t805 t806 t807 t808 t809 t812 t815 t816).bind fun t834 => (if t834 = true then (laws_FnExactNewSession.j0 k a0 a1 t817 (t832 != t817) t804 t805 t806 t807 t808 t809 t812 t815 t816 t819 t820 t821 t822 t823 t824 t827 t830 t831) else (laws_FnExactNewSession.j0 k a0 a1 t817 true t804 t805 t806 t807 t808 t809 t812 t815 t816 t819 t820 t821 t822 t823 t824 t827 t830 t831))) = some r := H
 have A4 := Aside0.mk A40
 clear A40
 have HC5 := Aside0.mk H
 clear H
 go_enter Try.func13, Try.ntmps13
 go_upto_region 3 with (first | ((with_reducible refine gate_callee (f := 49) rfl ?_); refine goesL_ (some 16) rfl rfl Try.func49 (by kernel_rfl) rfl #[.int .i64 a0, .int .i64 a1] rfl (by (try simp only [List.map_toArray, List.map_cons, List.map_nil]); first | done | rfl | (simp only [List.length_drop, List.length_take]; rfl)) ?_; (with_reducible refine (spec_NewSession.calls k a0 a1 t804 t805 t806 t807 t808 t809 t812 t815 t816 t817 _ A3.out).mono ?_); rintro e w6 ⟨v810, v813, rfl, ho0, ho1, hb⟩; refine ⟨_, rfl, ?_⟩; have n0_ := Aside0.mk (Kd.R_lower ho0 (below_size (by repeat (first | (with_reducible first | exact HB.out | apply below_alloc | apply pw_below_drewN | apply below_drew1) | exact HB.out)))); have n1_ := Aside0.mk (Kd.R_lower ho1 (below_size (by repeat (first | (with_reducible first | exact HB.out | apply below_alloc | apply pw_below_drewN | apply below_drew1) | exact HB.out)))); have n2_ := Aside0.mk (below_step (by repeat (first | (with_reducible first | exact HB.out | apply below_alloc | apply pw_below_drewN | apply below_drew1) | exact HB.out)) hb); clear HB; have HO811 := n0_; have HO814 := n1_; have HB := n2_; clear n0_ n1_ n2_; (try clear hb); (try clear hb2); (try clear hk); (try clear hi); (try clear ho0); (try clear ho1)) | ((with_reducible refine gate_dst (N := 5) rfl ?_); refine box_event ?hg (N := 5) ?hd (cs := #[.int .i64 0, .int .i64 0, .int .i64 0, .string (⟨#[]⟩ : ByteArray), .int .i64 0, .slice none 0 0, .slice none 0 0, .int .i64 0, .bool false]) (t := 70) ?hr ?_; (case hd => rfl); (case hg => rfl); (case hr => first | (go_simp; done) | (go_simp; rfl)); intro gb818 hg w7 hbox hb; have n0_ := Aside0.mk (Kd.R_below (by (with_reducible repeat (first | apply Kd.R_alloc | apply Kd.R_drewN | apply Kd.R_drew)); exact HO811.out) hb); have n1_ := Aside0.mk (Kd.R_below (by (with_reducible repeat (first | apply Kd.R_alloc | apply Kd.R_drewN | apply Kd.R_drew)); exact HO814.out) hb); have n2_ := Aside0.mk (below_step (by repeat (first | (with_reducible first | exact HB.out | apply below_alloc | apply pw_below_drewN | apply below_drew1) | exact HB.out)) hb); have n3_ := Aside0.mk (hbox); have n4_ := Aside0.mk ((by rw [hg]; exact (below_size (by repeat (first | (with_reducible first | exact HB.out | apply below_alloc | apply pw_below_drewN | apply below_drew1) | exact HB.out))) : w.heap.size ≤ gb818)); have n5_ := Aside0.mk ((by rw [hg]; exact (below_size (by repeat (first | (with_reducible first | exact HB.out | apply below_alloc | apply pw_below_drewN | apply below_drew1) | exact HB.out))) : w.heap.size ≤ gb818)); clear HO811; clear HO814; clear HB; have HO811 := n0_; have HO814 := n1_; have HB := n2_; have BK818 := n3_; have GW818 := n4_; have GE818 := n5_; clear n0_ n1_ n2_ n3_ n4_ n5_; clear hb hbox hg; have hcz8_0 : w7.cell? ⟨gb818, 0, none⟩ = some (.int .i64 0) := (blk_cell BK818.out 0).trans rfl; have hcz8_1 : w7.cell? ⟨gb818, 1, none⟩ = some (.int .i64 0) := (blk_cell BK818.out 1).trans rfl; have hcz8_2 : w7.cell? ⟨gb818, 2, none⟩ = some (.int .i64 0) := (blk_cell BK818.out 2).trans rfl; have hcz8_3 : w7.cell? ⟨gb818, 3, none⟩ = some (.string (⟨#[]⟩ : ByteArray)) := (blk_cell BK818.out 3).trans rfl; have hcz8_4 : w7.cell? ⟨gb818, 4, none⟩ = some (.int .i64 0) := (blk_cell BK818.out 4).trans rfl; have hcz8_5 : w7.cell? ⟨gb818, 5, none⟩ = some (.slice none 0 0) := (blk_cell BK818.out 5).trans rfl; have hcz8_6 : w7.cell? ⟨gb818, 6, none⟩ = some (.slice none 0 0) := (blk_cell BK818.out 6).trans rfl; have hcz8_7 : w7.cell? ⟨gb818, 7, none⟩ = some (.int .i64 0) := (blk_cell BK818.out 7).trans rfl; have hcz8_8 : w7.cell? ⟨gb818, 8, none⟩ = some (.bool false) := (blk_cell BK818.out 8).trans rfl; have hfz8_0 := blk_frozen BK818.out 0; have hfz8_1 := blk_frozen BK818.out 1; have hfz8_2 := blk_frozen BK818.out 2; have hfz8_3 := blk_frozen BK818.out 3; have hfz8_4 := blk_frozen BK818.out 4; have hfz8_5 := blk_frozen BK818.out 5; have hfz8_6 := blk_frozen BK818.out 6; have hfz8_7 := blk_frozen BK818.out 7; have hfz8_8 := blk_frozen BK818.out 8; obtain ⟨Ao9, co9, eo9⟩ := Kd.R_slice HO811.out; subst eo9; obtain ⟨Ao10, co10, eo10⟩ := Kd.R_slice HO814.out; subst eo10) | ((with_reducible refine gate_callee (f := 50) rfl ?_); refine goesL_ (some 22) rfl rfl Try.func50 (by kernel_rfl) rfl #[.int .i64 a0, .int .i64 a1] rfl (by (try simp only [List.map_toArray, List.map_cons, List.map_nil]); first | done | rfl | (simp only [List.length_drop, List.length_take]; rfl)) ?_; (with_reducible refine (impl_NewSession.calls a0 a1 t819 t820 t821 t822 t823 t824 t827 t830 t831 t832 _ A4.out).mono ?_); rintro e w11 ⟨v825, v828, rfl, ho0, ho1, hb⟩; refine ⟨_, rfl, ?_⟩; have n0_ := Aside0.mk (Kd.R_mono (Kd.R_told (Kd.R_told (Kd.R_old (by (with_reducible repeat (first | apply Kd.R_alloc | apply Kd.R_drewN | apply Kd.R_drew)); exact (Kd.R_mono (Kd.R_far (p := ⟨gb818, 8, none⟩) (Kd.R_far (p := ⟨gb818, 7, none⟩) (Kd.R_far (p := ⟨gb818, 6, none⟩) (Kd.R_far (p := ⟨gb818, 5, none⟩) (Kd.R_far (p := ⟨gb818, 4, none⟩) (Kd.R_far (p := ⟨gb818, 3, none⟩) (Kd.R_far (p := ⟨gb818, 2, none⟩) (Kd.R_far (p := ⟨gb818, 1, none⟩) (Kd.R_far (p := ⟨gb818, 0, none⟩) (Kd.R_types HO811.out BK818.out (by decide)) (fun _ hk => hk.2) (.int .i64 t804)) (fun _ hk => hk.2) (.int .i64 t805)) (fun _ hk => hk.2) (.int .i64 t806)) (fun _ hk => hk.2) (.string t807)) (fun _ hk => hk.2) (.int .i64 t808)) (fun _ hk => hk.2) (.slice Ao9 t809.length co9)) (fun _ hk => hk.2) (.slice Ao10 t812.length co10)) (fun _ hk => hk.2) (.int .i64 t815)) (fun _ hk => hk.2) (.bool t816)) (fun _ h_ => h_.1))) hb) (Kd.R_base ho0)) (Kd.R_base ho1)) (fun _ h_ => h_.1)); have n1_ := Aside0.mk (Kd.R_mono (Kd.R_told (Kd.R_told (Kd.R_old (by (with_reducible repeat (first | apply Kd.R_alloc | apply Kd.R_drewN | apply Kd.R_drew)); exact (Kd.R_mono (Kd.R_far (p := ⟨gb818, 8, none⟩) (Kd.R_far (p := ⟨gb818, 7, none⟩) (Kd.R_far (p := ⟨gb818, 6, none⟩) (Kd.R_far (p := ⟨gb818, 5, none⟩) (Kd.R_far (p := ⟨gb818, 4, none⟩) (Kd.R_far (p := ⟨gb818, 3, none⟩) (Kd.R_far (p := ⟨gb818, 2, none⟩) (Kd.R_far (p := ⟨gb818, 1, none⟩) (Kd.R_far (p := ⟨gb818, 0, none⟩) (Kd.R_types HO814.out BK818.out (by decide)) (fun _ hk => hk.2) (.int .i64 t804)) (fun _ hk => hk.2) (.int .i64 t805)) (fun _ hk => hk.2) (.int .i64 t806)) (fun _ hk => hk.2) (.string t807)) (fun _ hk => hk.2) (.int .i64 t808)) (fun _ hk => hk.2) (.slice Ao9 t809.length co9)) (fun _ hk => hk.2) (.slice Ao10 t812.length co10)) (fun _ hk => hk.2) (.int .i64 t815)) (fun _ hk => hk.2) (.bool t816)) (fun _ h_ => h_.1))) hb) (Kd.R_base ho0)) (Kd.R_base ho1)) (fun _ h_ => h_.1)); have n2_ := Aside0.mk (Kd.R_lower (Kd.R_new' (Kd.R_new' ho0 (Kd.R_lt (by (with_reducible repeat (first | apply Kd.R_alloc | apply Kd.R_drewN | apply Kd.R_drew)); exact (Kd.R_mono (Kd.R_far (p := ⟨gb818, 8, none⟩) (Kd.R_far (p := ⟨gb818, 7, none⟩) (Kd.R_far (p := ⟨gb818, 6, none⟩) (Kd.R_far (p := ⟨gb818, 5, none⟩) (Kd.R_far (p := ⟨gb818, 4, none⟩) (Kd.R_far (p := ⟨gb818, 3, none⟩) (Kd.R_far (p := ⟨gb818, 2, none⟩) (Kd.R_far (p := ⟨gb818, 1, none⟩) (Kd.R_far (p := ⟨gb818, 0, none⟩) (Kd.R_types HO811.out BK818.out (by decide)) (fun _ hk => hk.2) (.int .i64 t804)) (fun _ hk => hk.2) (.int .i64 t805)) (fun _ hk => hk.2) (.int .i64 t806)) (fun _ hk => hk.2) (.string t807)) (fun _ hk => hk.2) (.int .i64 t808)) (fun _ hk => hk.2) (.slice Ao9 t809.length co9)) (fun _ hk => hk.2) (.slice Ao10 t812.length co10)) (fun _ hk => hk.2) (.int .i64 t815)) (fun _ hk => hk.2) (.bool t816)) (fun _ h_ => h_.1))))) (Kd.R_lt (by (with_reducible repeat (first | apply Kd.R_alloc | apply Kd.R_drewN | apply Kd.R_drew)); exact (Kd.R_mono (Kd.R_far (p := ⟨gb818, 8, none⟩) (Kd.R_far (p := ⟨gb818, 7, none⟩) (Kd.R_far (p := ⟨gb818, 6, none⟩) (Kd.R_far (p := ⟨gb818, 5, none⟩) (Kd.R_far (p := ⟨gb818, 4, none⟩) (Kd.R_far (p := ⟨gb818, 3, none⟩) (Kd.R_far (p := ⟨gb818, 2, none⟩) (Kd.R_far (p := ⟨gb818, 1, none⟩) (Kd.R_far (p := ⟨gb818, 0, none⟩) (Kd.R_types HO814.out BK818.out (by decide)) (fun _ hk => hk.2) (.int .i64 t804)) (fun _ hk => hk.2) (.int .i64 t805)) (fun _ hk => hk.2) (.int .i64 t806)) (fun _ hk => hk.2) (.string t807)) (fun _ hk => hk.2) (.int .i64 t808)) (fun _ hk => hk.2) (.slice Ao9 t809.length co9)) (fun _ hk => hk.2) (.slice Ao10 t812.length co10)) (fun _ hk => hk.2) (.int .i64 t815)) (fun _ hk => hk.2) (.bool t816)) (fun _ h_ => h_.1))))) (below_size (by repeat (first | (with_reducible first | exact HB.out | apply below_alloc | apply pw_below_drewN | apply below_drew1 | refine below_set ?_ GE818.out) | exact HB.out)))); have n3_ := Aside0.mk (Kd.R_lower (Kd.R_new' (Kd.R_new' ho1 (Kd.R_lt (by (with_reducible repeat (first | apply Kd.R_alloc | apply Kd.R_drewN | apply Kd.R_drew)); exact (Kd.R_mono (Kd.R_far (p := ⟨gb818, 8, none⟩) (Kd.R_far (p := ⟨gb818, 7, none⟩) (Kd.R_far (p := ⟨gb818, 6, none⟩) (Kd.R_far (p := ⟨gb818, 5, none⟩) (Kd.R_far (p := ⟨gb818, 4, none⟩) (Kd.R_far (p := ⟨gb818, 3, none⟩) (Kd.R_far (p := ⟨gb818, 2, none⟩) (Kd.R_far (p := ⟨gb818, 1, none⟩) (Kd.R_far (p := ⟨gb818, 0, none⟩) (Kd.R_types HO811.out BK818.out (by decide)) (fun _ hk => hk.2) (.int .i64 t804)) (fun _ hk => hk.2) (.int .i64 t805)) (fun _ hk => hk.2) (.int .i64 t806)) (fun _ hk => hk.2) (.string t807)) (fun _ hk => hk.2) (.int .i64 t808)) (fun _ hk => hk.2) (.slice Ao9 t809.length co9)) (fun _ hk => hk.2) (.slice Ao10 t812.length co10)) (fun _ hk => hk.2) (.int .i64 t815)) (fun _ hk => hk.2) (.bool t816)) (fun _ h_ => h_.1))))) (Kd.R_lt (by (with_reducible repeat (first | apply Kd.R_alloc | apply Kd.R_drewN | apply Kd.R_drew)); exact (Kd.R_mono (Kd.R_far (p := ⟨gb818, 8, none⟩) (Kd.R_far (p := ⟨gb818, 7, none⟩) (Kd.R_far (p := ⟨gb818, 6, none⟩) (Kd.R_far (p := ⟨gb818, 5, none⟩) (Kd.R_far (p := ⟨gb818, 4, none⟩) (Kd.R_far (p := ⟨gb818, 3, none⟩) (Kd.R_far (p := ⟨gb818, 2, none⟩) (Kd.R_far (p := ⟨gb818, 1, none⟩) (Kd.R_far (p := ⟨gb818, 0, none⟩) (Kd.R_types HO814.out BK818.out (by decide)) (fun _ hk => hk.2) (.int .i64 t804)) (fun _ hk => hk.2) (.int .i64 t805)) (fun _ hk => hk.2) (.int .i64 t806)) (fun _ hk => hk.2) (.string t807)) (fun _ hk => hk.2) (.int .i64 t808)) (fun _ hk => hk.2) (.slice Ao9 t809.length co9)) (fun _ hk => hk.2) (.slice Ao10 t812.length co10)) (fun _ hk => hk.2) (.int .i64 t815)) (fun _ hk => hk.2) (.bool t816)) (fun _ h_ => h_.1))))) (below_size (by repeat (first | (with_reducible first | exact HB.out | apply below_alloc | apply pw_below_drewN | apply below_drew1 | refine below_set ?_ GE818.out) | exact HB.out)))); have n4_ := Aside0.mk (blk_below (g := gb818) (o := .cells #[.int .i64 t804, .int .i64 t805, .int .i64 t806, .string t807, .int .i64 t808, .slice Ao9 t809.length co9, .slice Ao10 t812.length co10, .int .i64 t815, .bool t816] 70 (0, 0)) (by (with_reducible repeat (first | refine blk_drewN ?_ _ | refine blk_drew ?_ | refine blk_alloc ?_ _)); refine blk_put (cs := #[.int .i64 t804, .int .i64 t805, .int .i64 t806, .string t807, .int .i64 t808, .slice Ao9 t809.length co9, .slice Ao10 t812.length co10, .int .i64 t815, .bool false]) ?_ 8 _ rfl; (with_reducible repeat (first | refine blk_drewN ?_ _ | refine blk_drew ?_ | refine blk_alloc ?_ _)); refine blk_put (cs := #[.int .i64 t804, .int .i64 t805, .int .i64 t806, .string t807, .int .i64 t808, .slice Ao9 t809.length co9, .slice Ao10 t812.length co10, .int .i64 0, .bool false]) ?_ 7 _ rfl; (with_reducible repeat (first | refine blk_drewN ?_ _ | refine blk_drew ?_ | refine blk_alloc ?_ _)); refine blk_put (cs := #[.int .i64 t804, .int .i64 t805, .int .i64 t806, .string t807, .int .i64 t808, .slice Ao9 t809.length co9, .slice none 0 0, .int .i64 0, .bool false]) ?_ 6 _ rfl; (with_reducible repeat (first | refine blk_drewN ?_ _ | refine blk_drew ?_ | refine blk_alloc ?_ _)); refine blk_put (cs := #[.int .i64 t804, .int .i64 t805, .int .i64 t806, .string t807, .int .i64 t808, .slice none 0 0, .slice none 0 0, .int .i64 0, .bool false]) ?_ 5 _ rfl; (with_reducible repeat (first | refine blk_drewN ?_ _ | refine blk_drew ?_ | refine blk_alloc ?_ _)); refine blk_put (cs := #[.int .i64 t804, .int .i64 t805, .int .i64 t806, .string t807, .int .i64 0, .slice none 0 0, .slice none 0 0, .int .i64 0, .bool false]) ?_ 4 _ rfl; (with_reducible repeat (first | refine blk_drewN ?_ _ | refine blk_drew ?_ | refine blk_alloc ?_ _)); refine blk_put (cs := #[.int .i64 t804, .int .i64 t805, .int .i64 t806, .string (⟨#[]⟩ : ByteArray), .int .i64 0, .slice none 0 0, .slice none 0 0, .int .i64 0, .bool false]) ?_ 3 _ rfl; (with_reducible repeat (first | refine blk_drewN ?_ _ | refine blk_drew ?_ | refine blk_alloc ?_ _)); refine blk_put (cs := #[.int .i64 t804, .int .i64 t805, .int .i64 0, .string (⟨#[]⟩ : ByteArray), .int .i64 0, .slice none 0 0, .slice none 0 0, .int .i64 0, .bool false]) ?_ 2 _ rfl; (with_reducible repeat (first | refine blk_drewN ?_ _ | refine blk_drew ?_ | refine blk_alloc ?_ _)); refine blk_put (cs := #[.int .i64 t804, .int .i64 0, .int .i64 0, .string (⟨#[]⟩ : ByteArray), .int .i64 0, .slice none 0 0, .slice none 0 0, .int .i64 0, .bool false]) ?_ 1 _ rfl; (with_reducible repeat (first | refine blk_drewN ?_ _ | refine blk_drew ?_ | refine blk_alloc ?_ _)); refine blk_put (cs := #[.int .i64 0, .int .i64 0, .int .i64 0, .string (⟨#[]⟩ : ByteArray), .int .i64 0, .slice none 0 0, .slice none 0 0, .int .i64 0, .bool false]) ?_ 0 _ rfl; (with_reducible repeat (first | refine blk_drewN ?_ _ | refine blk_drew ?_ | refine blk_alloc ?_ _)); exact BK818.out) hb); have n5_ := Aside0.mk (below_step (by repeat (first | (with_reducible first | exact HB.out | apply below_alloc | apply pw_below_drewN | apply below_drew1 | refine below_set ?_ GE818.out) | exact HB.out)) hb); clear HO811; clear HO814; clear BK818; clear HB; have HO811 := n0_; have HO814 := n1_; have HO826 := n2_; have HO829 := n3_; have BK818 := n4_; have HB := n5_; clear n0_ n1_ n2_ n3_ n4_ n5_; (try clear hb); (try clear hb2); (try clear hk); (try clear hi); (try clear ho0); (try clear ho1)) | ((with_reducible refine gate_dst (N := 7) rfl ?_); refine box_event ?hg (N := 7) ?hd (cs := #[.int .i64 0, .int .i64 0, .int .i64 0, .string (⟨#[]⟩ : ByteArray), .int .i64 0, .slice none 0 0, .slice none 0 0, .int .i64 0, .bool false]) (t := 70) ?hr ?_; (case hd => rfl); (case hg => rfl); (case hr => first | (go_simp; done) | (go_simp; rfl)); intro gb833 hg w12 hbox hb; have n0_ := Aside0.mk (Kd.R_below (by (with_reducible repeat (first | apply Kd.R_alloc | apply Kd.R_drewN | apply Kd.R_drew)); exact HO811.out) hb); have n1_ := Aside0.mk (Kd.R_below (by (with_reducible repeat (first | apply Kd.R_alloc | apply Kd.R_drewN | apply Kd.R_drew)); exact HO814.out) hb); have n2_ := Aside0.mk (Kd.R_below (by (with_reducible repeat (first | apply Kd.R_alloc | apply Kd.R_drewN | apply Kd.R_drew)); exact HO826.out) hb); have n3_ := Aside0.mk (Kd.R_below (by (with_reducible repeat (first | apply Kd.R_alloc | apply Kd.R_drewN | apply Kd.R_drew)); exact HO829.out) hb); have n4_ := Aside0.mk (blk_below (g := gb818) (o := .cells #[.int .i64 t804, .int .i64 t805, .int .i64 t806, .string t807, .int .i64 t808, .slice Ao9 t809.length co9, .slice Ao10 t812.length co10, .int .i64 t815, .bool t816] 70 (0, 0)) (by (with_reducible repeat (first | refine blk_drewN ?_ _ | refine blk_drew ?_ | refine blk_alloc ?_ _)); exact BK818.out) hb); have n5_ := Aside0.mk (below_step (by repeat (first | (with_reducible first | exact HB.out | apply below_alloc | apply pw_below_drewN | apply below_drew1 | refine below_set ?_ GE818.out) | exact HB.out)) hb); have n6_ := Aside0.mk (hbox); have n7_ := Aside0.mk ((by rw [hg]; exact (below_size (by repeat (first | (with_reducible first | exact HB.out | apply below_alloc | apply pw_below_drewN | apply below_drew1 | refine below_set ?_ GE818.out) | exact HB.out))) : w.heap.size ≤ gb833)); have n8_ := Aside0.mk ((by rw [hg]; exact (below_size (by repeat (first | (with_reducible first | exact HB.out | apply below_alloc | apply pw_below_drewN | apply below_drew1 | refine below_set ?_ GE818.out) | exact HB.out))) : w.heap.size ≤ gb833)); have n9_ := Aside0.mk ((by rw [hg]; exact Nat.ne_of_lt (blk_lt (g := gb818) (o := .cells #[.int .i64 t804, .int .i64 t805, .int .i64 t806, .string t807, .int .i64 t808, .slice Ao9 t809.length co9, .slice Ao10 t812.length co10, .int .i64 t815, .bool t816] 70 (0, 0)) (by (with_reducible repeat (first | refine blk_drewN ?_ _ | refine blk_drew ?_ | refine blk_alloc ?_ _)); exact BK818.out)) : gb818 ≠ gb833)); have n10_ := Aside0.mk ((by rw [hg]; exact Nat.ne_of_gt (blk_lt (g := gb818) (o := .cells #[.int .i64 t804, .int .i64 t805, .int .i64 t806, .string t807, .int .i64 t808, .slice Ao9 t809.length co9, .slice Ao10 t812.length co10, .int .i64 t815, .bool t816] 70 (0, 0)) (by (with_reducible repeat (first | refine blk_drewN ?_ _ | refine blk_drew ?_ | refine blk_alloc ?_ _)); exact BK818.out)) : gb833 ≠ gb818)); clear HO811; clear HO814; clear HO826; clear HO829; clear BK818; clear HB; have HO811 := n0_; have HO814 := n1_; have HO826 := n2_; have HO829 := n3_; have BK818 := n4_; have HB := n5_; have BK833 := n6_; have GW833 := n7_; have GE833 := n8_; have NB818_833 := n9_; have NB833_818 := n10_; clear n0_ n1_ n2_ n3_ n4_ n5_ n6_ n7_ n8_ n9_ n10_; clear hb hbox hg; have hnb13 := NB833_818.out; have hnc13 := NB818_833.out; have hcz14_0 : w12.cell? ⟨gb833, 0, none⟩ = some (.int .i64 0) := (blk_cell BK833.out 0).trans rfl; have hcz14_1 : w12.cell? ⟨gb833, 1, none⟩ = some (.int .i64 0) := (blk_cell BK833.out 1).trans rfl; have hcz14_2 : w12.cell? ⟨gb833, 2, none⟩ = some (.int .i64 0) := (blk_cell BK833.out 2).trans rfl; have hcz14_3 : w12.cell? ⟨gb833, 3, none⟩ = some (.string (⟨#[]⟩ : ByteArray)) := (blk_cell BK833.out 3).trans rfl; have hcz14_4 : w12.cell? ⟨gb833, 4, none⟩ = some (.int .i64 0) := (blk_cell BK833.out 4).trans rfl; have hcz14_5 : w12.cell? ⟨gb833, 5, none⟩ = some (.slice none 0 0) := (blk_cell BK833.out 5).trans rfl; have hcz14_6 : w12.cell? ⟨gb833, 6, none⟩ = some (.slice none 0 0) := (blk_cell BK833.out 6).trans rfl; have hcz14_7 : w12.cell? ⟨gb833, 7, none⟩ = some (.int .i64 0) := (blk_cell BK833.out 7).trans rfl; have hcz14_8 : w12.cell? ⟨gb833, 8, none⟩ = some (.bool false) := (blk_cell BK833.out 8).trans rfl; have hfz14_0 := blk_frozen BK833.out 0; have hfz14_1 := blk_frozen BK833.out 1; have hfz14_2 := blk_frozen BK833.out 2; have hfz14_3 := blk_frozen BK833.out 3; have hfz14_4 := blk_frozen BK833.out 4; have hfz14_5 := blk_frozen BK833.out 5; have hfz14_6 := blk_frozen BK833.out 6; have hfz14_7 := blk_frozen BK833.out 7; have hfz14_8 := blk_frozen BK833.out 8; obtain ⟨Ao15, co15, eo15⟩ := Kd.R_slice HO826.out; subst eo15; obtain ⟨Ao16, co16, eo16⟩ := Kd.R_slice HO829.out; subst eo16))
 (try simp only [Act.put, List.setIfInBounds_toArray, List.set_cons_zero, List.set_cons_succ])
 go_cut [33] (fun v33 wc => ∃ (kq : Nat) (x33_4 : Bool), v33 = .bool x33_4 ∧ Aside0 (laws_FnExactNewSession.j0 kq a0 a1 t817 x33_4 t804 t805 t806 t807 t808 t809 t812 t815 t816 t819 t820 t821 t822 t823 t824 t827 t830 t831 = some r) ∧ Aside0 (kq ≤ k) ∧ Aside0 (Kd.R (Kd.int .i64) 3 wc w.heap.size (fun k_ => some k_ ≠ ((.slice Ao10 t812.length co10) : Value).ownBlock ∧ some k_ ≠ ((.slice Ao15 t824.length co15) : Value).ownBlock ∧ some k_ ≠ ((.slice Ao16 t827.length co16) : Value).ownBlock) (.slice Ao9 t809.length co9) t809) ∧ Aside0 (Kd.R (Kd.int .i64) 3 wc w.heap.size (fun k_ => some k_ ≠ ((.slice Ao9 t809.length co9) : Value).ownBlock ∧ some k_ ≠ ((.slice Ao15 t824.length co15) : Value).ownBlock ∧ some k_ ≠ ((.slice Ao16 t827.length co16) : Value).ownBlock) (.slice Ao10 t812.length co10) t812) ∧ Aside0 (Kd.R (Kd.int .i64) 3 wc w.heap.size (fun k_ => some k_ ≠ ((.slice Ao9 t809.length co9) : Value).ownBlock ∧ some k_ ≠ ((.slice Ao10 t812.length co10) : Value).ownBlock ∧ some k_ ≠ ((.slice Ao16 t827.length co16) : Value).ownBlock) (.slice Ao15 t824.length co15) t824) ∧ Aside0 (Kd.R (Kd.int .i64) 3 wc w.heap.size (fun k_ => some k_ ≠ ((.slice Ao9 t809.length co9) : Value).ownBlock ∧ some k_ ≠ ((.slice Ao10 t812.length co10) : Value).ownBlock ∧ some k_ ≠ ((.slice Ao15 t824.length co15) : Value).ownBlock) (.slice Ao16 t827.length co16) t827) ∧ Aside0 (wc.heap[gb818]? = some (.cells #[.int .i64 t804, .int .i64 t805, .int .i64 t806, .string t807, .int .i64 t808, (.slice Ao9 t809.length co9), (.slice Ao10 t812.length co10), .int .i64 t815, .bool t816] 70 (0, 0))) ∧ Aside0 (wc.heap[gb833]? = some (.cells #[.int .i64 t819, .int .i64 t820, .int .i64 t821, .string t822, .int .i64 t823, (.slice Ao15 t824.length co15), (.slice Ao16 t827.length co16), .int .i64 t830, .bool t831] 70 (0, 0))) ∧ Aside0 (Below w.heap.size w wc))
 case first =>
  have H := HC5.out
  clear HC5
  replace H := Option.bind_eq_some_iff.mp H
  obtain ⟨t834, A170, H⟩ := H
  replace H : (if t834 = true then (laws_FnExactNewSession.j0 k a0 a1 t817 (t832 != t817) t804 t805 t806 t807 t808 t809 t812 t815 t816 t819 t820 t821 t822 t823 t824 t827 t830 t831) else (laws_FnExactNewSession.j0 k a0 a1 t817 true t804 t805 t806 t807 t808 t809 t812 t815 t816 t819 t820 t821 t822 t823 t824 t827 t830 t831)) = some r := H
  have A17 := Aside0.mk A170
  clear A170
  by_cases c18 : t834 = true
  ·subst c18
   have H1 : (laws_FnExactNewSession.j0 k a0 a1 t817 (t832 != t817) t804 t805 t806 t807 t808 t809 t812 t815 t816 t819 t820 t821 t822 t823 t824 t827 t830 t831) = some r := by rw [if_pos rfl] at H; exact H
   clear H
   have H := H1
   clear H1
   have H' := Aside0.mk H
   clear H
   have hnb19 := NB833_818.out
   have hnc19 := NB818_833.out
   have hcz20_0 : w12.cell? ⟨gb833, 0, none⟩ = some (.int .i64 0) := (blk_cell BK833.out 0).trans rfl
   have hcz20_1 : w12.cell? ⟨gb833, 1, none⟩ = some (.int .i64 0) := (blk_cell BK833.out 1).trans rfl
   have hcz20_2 : w12.cell? ⟨gb833, 2, none⟩ = some (.int .i64 0) := (blk_cell BK833.out 2).trans rfl
   have hcz20_3 : w12.cell? ⟨gb833, 3, none⟩ = some (.string (⟨#[]⟩ : ByteArray)) := (blk_cell BK833.out 3).trans rfl
   have hcz20_4 : w12.cell? ⟨gb833, 4, none⟩ = some (.int .i64 0) := (blk_cell BK833.out 4).trans rfl
   have hcz20_5 : w12.cell? ⟨gb833, 5, none⟩ = some (.slice none 0 0) := (blk_cell BK833.out 5).trans rfl
   have hcz20_6 : w12.cell? ⟨gb833, 6, none⟩ = some (.slice none 0 0) := (blk_cell BK833.out 6).trans rfl
   have hcz20_7 : w12.cell? ⟨gb833, 7, none⟩ = some (.int .i64 0) := (blk_cell BK833.out 7).trans rfl
   have hcz20_8 : w12.cell? ⟨gb833, 8, none⟩ = some (.bool false) := (blk_cell BK833.out 8).trans rfl
   have hfz20_0 := blk_frozen BK833.out 0
   have hfz20_1 := blk_frozen BK833.out 1
   have hfz20_2 := blk_frozen BK833.out 2
   have hfz20_3 := blk_frozen BK833.out 3
   have hfz20_4 := blk_frozen BK833.out 4
   have hfz20_5 := blk_frozen BK833.out 5
   have hfz20_6 := blk_frozen BK833.out 6
   have hfz20_7 := blk_frozen BK833.out 7
   have hfz20_8 := blk_frozen BK833.out 8
   have hcz21_0 : w12.cell? ⟨gb818, 0, none⟩ = some (.int .i64 t804) := (blk_cell BK818.out 0).trans rfl
   have hcz21_1 : w12.cell? ⟨gb818, 1, none⟩ = some (.int .i64 t805) := (blk_cell BK818.out 1).trans rfl
   have hcz21_2 : w12.cell? ⟨gb818, 2, none⟩ = some (.int .i64 t806) := (blk_cell BK818.out 2).trans rfl
   have hcz21_3 : w12.cell? ⟨gb818, 3, none⟩ = some (.string t807) := (blk_cell BK818.out 3).trans rfl
   have hcz21_4 : w12.cell? ⟨gb818, 4, none⟩ = some (.int .i64 t808) := (blk_cell BK818.out 4).trans rfl
   have hcz21_5 : w12.cell? ⟨gb818, 5, none⟩ = some (.slice Ao9 t809.length co9) := (blk_cell BK818.out 5).trans rfl
   have hcz21_6 : w12.cell? ⟨gb818, 6, none⟩ = some (.slice Ao10 t812.length co10) := (blk_cell BK818.out 6).trans rfl
   have hcz21_7 : w12.cell? ⟨gb818, 7, none⟩ = some (.int .i64 t815) := (blk_cell BK818.out 7).trans rfl
   have hcz21_8 : w12.cell? ⟨gb818, 8, none⟩ = some (.bool t816) := (blk_cell BK818.out 8).trans rfl
   have hfz21_0 := blk_frozen BK818.out 0
   have hfz21_1 := blk_frozen BK818.out 1
   have hfz21_2 := blk_frozen BK818.out 2
   have hfz21_3 := blk_frozen BK818.out 3
   have hfz21_4 := blk_frozen BK818.out 4
   have hfz21_5 := blk_frozen BK818.out 5
   have hfz21_6 := blk_frozen BK818.out 6
   have hfz21_7 := blk_frozen BK818.out 7
   have hfz21_8 := blk_frozen BK818.out 8
   go_wp2_with (first | ((with_reducible refine gate_callee (f := 51) rfl ?_); refine goesL_ (some 27) rfl rfl Try.func51 (by kernel_rfl) rfl #[.agg #[.int .i64 t819, .int .i64 t820, .int .i64 t821, .string t822, .int .i64 t823, .slice Ao15 t824.length co15, .slice Ao16 t827.length co16, .int .i64 t830, .bool t831], .agg #[.int .i64 t804, .int .i64 t805, .int .i64 t806, .string t807, .int .i64 t808, .slice Ao9 t809.length co9, .slice Ao10 t812.length co10, .int .i64 t815, .bool t816]] rfl (by (try simp only [List.map_toArray, List.map_cons, List.map_nil]); first | done | rfl | (simp only [List.length_drop, List.length_take]; rfl)) ?_; (with_reducible refine (laws_eqSession.calls k t819 t820 t821 t822 t823 _ _ t824 _ _ t827 t830 t831 t804 t805 t806 t807 t808 _ _ t809 _ _ t812 t815 t816 true _ ?side1 ?side2 ?side3 ?side4 ?side5 ?side6 ?side7 ?side8 A17.out).mono ?_); (case side1 => refine (Kd.R_reads' (e := 3) (base := w.heap.size) (ok := fun k_ => ((some k_ ≠ (.slice Ao16 t827.length co16 : Value).ownBlock ∧ some k_ ≠ (.slice Ao9 t809.length co9 : Value).ownBlock) ∧ some k_ ≠ (.slice Ao10 t812.length co10 : Value).ownBlock)) (n := t824.length) (c := co15) ?_).2.2; exact (by (with_reducible repeat (first | apply Kd.R_alloc | apply Kd.R_drewN | apply Kd.R_drew)); exact (Kd.R_mono (Kd.R_far (p := ⟨gb833, 8, none⟩) (Kd.R_far (p := ⟨gb833, 7, none⟩) (Kd.R_far (p := ⟨gb833, 6, none⟩) (Kd.R_far (p := ⟨gb833, 5, none⟩) (Kd.R_far (p := ⟨gb833, 4, none⟩) (Kd.R_far (p := ⟨gb833, 3, none⟩) (Kd.R_far (p := ⟨gb833, 2, none⟩) (Kd.R_far (p := ⟨gb833, 1, none⟩) (Kd.R_far (p := ⟨gb833, 0, none⟩) (Kd.R_types HO826.out BK833.out (by decide)) (fun _ hk => hk.2) (.int .i64 t819)) (fun _ hk => hk.2) (.int .i64 t820)) (fun _ hk => hk.2) (.int .i64 t821)) (fun _ hk => hk.2) (.string t822)) (fun _ hk => hk.2) (.int .i64 t823)) (fun _ hk => hk.2) (.slice Ao15 t824.length co15)) (fun _ hk => hk.2) (.slice Ao16 t827.length co16)) (fun _ hk => hk.2) (.int .i64 t830)) (fun _ hk => hk.2) (.bool t831)) (fun _ h_ => h_.1)))); (case side2 => exact (Kd.R_reads' HO826.out).2.1); (case side3 => refine (Kd.R_reads' (e := 3) (base := w.heap.size) (ok := fun k_ => ((some k_ ≠ (.slice Ao15 t824.length co15 : Value).ownBlock ∧ some k_ ≠ (.slice Ao9 t809.length co9 : Value).ownBlock) ∧ some k_ ≠ (.slice Ao10 t812.length co10 : Value).ownBlock)) (n := t827.length) (c := co16) ?_).2.2; exact (by (with_reducible repeat (first | apply Kd.R_alloc | apply Kd.R_drewN | apply Kd.R_drew)); exact (Kd.R_mono (Kd.R_far (p := ⟨gb833, 8, none⟩) (Kd.R_far (p := ⟨gb833, 7, none⟩) (Kd.R_far (p := ⟨gb833, 6, none⟩) (Kd.R_far (p := ⟨gb833, 5, none⟩) (Kd.R_far (p := ⟨gb833, 4, none⟩) (Kd.R_far (p := ⟨gb833, 3, none⟩) (Kd.R_far (p := ⟨gb833, 2, none⟩) (Kd.R_far (p := ⟨gb833, 1, none⟩) (Kd.R_far (p := ⟨gb833, 0, none⟩) (Kd.R_types HO829.out BK833.out (by decide)) (fun _ hk => hk.2) (.int .i64 t819)) (fun _ hk => hk.2) (.int .i64 t820)) (fun _ hk => hk.2) (.int .i64 t821)) (fun _ hk => hk.2) (.string t822)) (fun _ hk => hk.2) (.int .i64 t823)) (fun _ hk => hk.2) (.slice Ao15 t824.length co15)) (fun _ hk => hk.2) (.slice Ao16 t827.length co16)) (fun _ hk => hk.2) (.int .i64 t830)) (fun _ hk => hk.2) (.bool t831)) (fun _ h_ => h_.1)))); (case side4 => exact (Kd.R_reads' HO829.out).2.1); (case side5 => refine (Kd.R_reads' (e := 3) (base := w.heap.size) (ok := fun k_ => ((some k_ ≠ (.slice Ao10 t812.length co10 : Value).ownBlock ∧ some k_ ≠ (.slice Ao15 t824.length co15 : Value).ownBlock) ∧ some k_ ≠ (.slice Ao16 t827.length co16 : Value).ownBlock)) (n := t809.length) (c := co9) ?_).2.2; exact (by (with_reducible repeat (first | apply Kd.R_alloc | apply Kd.R_drewN | apply Kd.R_drew)); exact (Kd.R_mono (Kd.R_far (p := ⟨gb833, 8, none⟩) (Kd.R_far (p := ⟨gb833, 7, none⟩) (Kd.R_far (p := ⟨gb833, 6, none⟩) (Kd.R_far (p := ⟨gb833, 5, none⟩) (Kd.R_far (p := ⟨gb833, 4, none⟩) (Kd.R_far (p := ⟨gb833, 3, none⟩) (Kd.R_far (p := ⟨gb833, 2, none⟩) (Kd.R_far (p := ⟨gb833, 1, none⟩) (Kd.R_far (p := ⟨gb833, 0, none⟩) (Kd.R_types HO811.out BK833.out (by decide)) (fun _ hk => hk.2) (.int .i64 t819)) (fun _ hk => hk.2) (.int .i64 t820)) (fun _ hk => hk.2) (.int .i64 t821)) (fun _ hk => hk.2) (.string t822)) (fun _ hk => hk.2) (.int .i64 t823)) (fun _ hk => hk.2) (.slice Ao15 t824.length co15)) (fun _ hk => hk.2) (.slice Ao16 t827.length co16)) (fun _ hk => hk.2) (.int .i64 t830)) (fun _ hk => hk.2) (.bool t831)) (fun _ h_ => h_.1)))); (case side6 => exact (Kd.R_reads' HO811.out).2.1); (case side7 => refine (Kd.R_reads' (e := 3) (base := w.heap.size) (ok := fun k_ => ((some k_ ≠ (.slice Ao9 t809.length co9 : Value).ownBlock ∧ some k_ ≠ (.slice Ao15 t824.length co15 : Value).ownBlock) ∧ some k_ ≠ (.slice Ao16 t827.length co16 : Value).ownBlock)) (n := t812.length) (c := co10) ?_).2.2; exact (by (with_reducible repeat (first | apply Kd.R_alloc | apply Kd.R_drewN | apply Kd.R_drew)); exact (Kd.R_mono (Kd.R_far (p := ⟨gb833, 8, none⟩) (Kd.R_far (p := ⟨gb833, 7, none⟩) (Kd.R_far (p := ⟨gb833, 6, none⟩) (Kd.R_far (p := ⟨gb833, 5, none⟩) (Kd.R_far (p := ⟨gb833, 4, none⟩) (Kd.R_far (p := ⟨gb833, 3, none⟩) (Kd.R_far (p := ⟨gb833, 2, none⟩) (Kd.R_far (p := ⟨gb833, 1, none⟩) (Kd.R_far (p := ⟨gb833, 0, none⟩) (Kd.R_types HO814.out BK833.out (by decide)) (fun _ hk => hk.2) (.int .i64 t819)) (fun _ hk => hk.2) (.int .i64 t820)) (fun _ hk => hk.2) (.int .i64 t821)) (fun _ hk => hk.2) (.string t822)) (fun _ hk => hk.2) (.int .i64 t823)) (fun _ hk => hk.2) (.slice Ao15 t824.length co15)) (fun _ hk => hk.2) (.slice Ao16 t827.length co16)) (fun _ hk => hk.2) (.int .i64 t830)) (fun _ hk => hk.2) (.bool t831)) (fun _ h_ => h_.1)))); (case side8 => exact (Kd.R_reads' HO814.out).2.1); rintro e w22 ⟨rfl, hb⟩; refine ⟨_, rfl, ?_⟩; have n0_ := Aside0.mk (Kd.R_below (by (with_reducible repeat (first | apply Kd.R_alloc | apply Kd.R_drewN | apply Kd.R_drew)); exact (Kd.R_mono (Kd.R_far (p := ⟨gb833, 8, none⟩) (Kd.R_far (p := ⟨gb833, 7, none⟩) (Kd.R_far (p := ⟨gb833, 6, none⟩) (Kd.R_far (p := ⟨gb833, 5, none⟩) (Kd.R_far (p := ⟨gb833, 4, none⟩) (Kd.R_far (p := ⟨gb833, 3, none⟩) (Kd.R_far (p := ⟨gb833, 2, none⟩) (Kd.R_far (p := ⟨gb833, 1, none⟩) (Kd.R_far (p := ⟨gb833, 0, none⟩) (Kd.R_types HO811.out BK833.out (by decide)) (fun _ hk => hk.2) (.int .i64 t819)) (fun _ hk => hk.2) (.int .i64 t820)) (fun _ hk => hk.2) (.int .i64 t821)) (fun _ hk => hk.2) (.string t822)) (fun _ hk => hk.2) (.int .i64 t823)) (fun _ hk => hk.2) (.slice Ao15 t824.length co15)) (fun _ hk => hk.2) (.slice Ao16 t827.length co16)) (fun _ hk => hk.2) (.int .i64 t830)) (fun _ hk => hk.2) (.bool t831)) (fun _ h_ => h_.1))) hb); have n1_ := Aside0.mk (Kd.R_below (by (with_reducible repeat (first | apply Kd.R_alloc | apply Kd.R_drewN | apply Kd.R_drew)); exact (Kd.R_mono (Kd.R_far (p := ⟨gb833, 8, none⟩) (Kd.R_far (p := ⟨gb833, 7, none⟩) (Kd.R_far (p := ⟨gb833, 6, none⟩) (Kd.R_far (p := ⟨gb833, 5, none⟩) (Kd.R_far (p := ⟨gb833, 4, none⟩) (Kd.R_far (p := ⟨gb833, 3, none⟩) (Kd.R_far (p := ⟨gb833, 2, none⟩) (Kd.R_far (p := ⟨gb833, 1, none⟩) (Kd.R_far (p := ⟨gb833, 0, none⟩) (Kd.R_types HO814.out BK833.out (by decide)) (fun _ hk => hk.2) (.int .i64 t819)) (fun _ hk => hk.2) (.int .i64 t820)) (fun _ hk => hk.2) (.int .i64 t821)) (fun _ hk => hk.2) (.string t822)) (fun _ hk => hk.2) (.int .i64 t823)) (fun _ hk => hk.2) (.slice Ao15 t824.length co15)) (fun _ hk => hk.2) (.slice Ao16 t827.length co16)) (fun _ hk => hk.2) (.int .i64 t830)) (fun _ hk => hk.2) (.bool t831)) (fun _ h_ => h_.1))) hb); have n2_ := Aside0.mk (Kd.R_below (by (with_reducible repeat (first | apply Kd.R_alloc | apply Kd.R_drewN | apply Kd.R_drew)); exact (Kd.R_mono (Kd.R_far (p := ⟨gb833, 8, none⟩) (Kd.R_far (p := ⟨gb833, 7, none⟩) (Kd.R_far (p := ⟨gb833, 6, none⟩) (Kd.R_far (p := ⟨gb833, 5, none⟩) (Kd.R_far (p := ⟨gb833, 4, none⟩) (Kd.R_far (p := ⟨gb833, 3, none⟩) (Kd.R_far (p := ⟨gb833, 2, none⟩) (Kd.R_far (p := ⟨gb833, 1, none⟩) (Kd.R_far (p := ⟨gb833, 0, none⟩) (Kd.R_types HO826.out BK833.out (by decide)) (fun _ hk => hk.2) (.int .i64 t819)) (fun _ hk => hk.2) (.int .i64 t820)) (fun _ hk => hk.2) (.int .i64 t821)) (fun _ hk => hk.2) (.string t822)) (fun _ hk => hk.2) (.int .i64 t823)) (fun _ hk => hk.2) (.slice Ao15 t824.length co15)) (fun _ hk => hk.2) (.slice Ao16 t827.length co16)) (fun _ hk => hk.2) (.int .i64 t830)) (fun _ hk => hk.2) (.bool t831)) (fun _ h_ => h_.1))) hb); have n3_ := Aside0.mk (Kd.R_below (by (with_reducible repeat (first | apply Kd.R_alloc | apply Kd.R_drewN | apply Kd.R_drew)); exact (Kd.R_mono (Kd.R_far (p := ⟨gb833, 8, none⟩) (Kd.R_far (p := ⟨gb833, 7, none⟩) (Kd.R_far (p := ⟨gb833, 6, none⟩) (Kd.R_far (p := ⟨gb833, 5, none⟩) (Kd.R_far (p := ⟨gb833, 4, none⟩) (Kd.R_far (p := ⟨gb833, 3, none⟩) (Kd.R_far (p := ⟨gb833, 2, none⟩) (Kd.R_far (p := ⟨gb833, 1, none⟩) (Kd.R_far (p := ⟨gb833, 0, none⟩) (Kd.R_types HO829.out BK833.out (by decide)) (fun _ hk => hk.2) (.int .i64 t819)) (fun _ hk => hk.2) (.int .i64 t820)) (fun _ hk => hk.2) (.int .i64 t821)) (fun _ hk => hk.2) (.string t822)) (fun _ hk => hk.2) (.int .i64 t823)) (fun _ hk => hk.2) (.slice Ao15 t824.length co15)) (fun _ hk => hk.2) (.slice Ao16 t827.length co16)) (fun _ hk => hk.2) (.int .i64 t830)) (fun _ hk => hk.2) (.bool t831)) (fun _ h_ => h_.1))) hb); have n4_ := Aside0.mk (blk_below (g := gb818) (o := .cells #[.int .i64 t804, .int .i64 t805, .int .i64 t806, .string t807, .int .i64 t808, .slice Ao9 t809.length co9, .slice Ao10 t812.length co10, .int .i64 t815, .bool t816] 70 (0, 0)) (by (with_reducible repeat (first | refine blk_drewN ?_ _ | refine blk_drew ?_ | refine blk_alloc ?_ _)); refine blk_far ?_ NB818_833.out _; (with_reducible repeat (first | refine blk_drewN ?_ _ | refine blk_drew ?_ | refine blk_alloc ?_ _)); refine blk_far ?_ NB818_833.out _; (with_reducible repeat (first | refine blk_drewN ?_ _ | refine blk_drew ?_ | refine blk_alloc ?_ _)); refine blk_far ?_ NB818_833.out _; (with_reducible repeat (first | refine blk_drewN ?_ _ | refine blk_drew ?_ | refine blk_alloc ?_ _)); refine blk_far ?_ NB818_833.out _; (with_reducible repeat (first | refine blk_drewN ?_ _ | refine blk_drew ?_ | refine blk_alloc ?_ _)); refine blk_far ?_ NB818_833.out _; (with_reducible repeat (first | refine blk_drewN ?_ _ | refine blk_drew ?_ | refine blk_alloc ?_ _)); refine blk_far ?_ NB818_833.out _; (with_reducible repeat (first | refine blk_drewN ?_ _ | refine blk_drew ?_ | refine blk_alloc ?_ _)); refine blk_far ?_ NB818_833.out _; (with_reducible repeat (first | refine blk_drewN ?_ _ | refine blk_drew ?_ | refine blk_alloc ?_ _)); refine blk_far ?_ NB818_833.out _; (with_reducible repeat (first | refine blk_drewN ?_ _ | refine blk_drew ?_ | refine blk_alloc ?_ _)); refine blk_far ?_ NB818_833.out _; (with_reducible repeat (first | refine blk_drewN ?_ _ | refine blk_drew ?_ | refine blk_alloc ?_ _)); exact BK818.out) hb); have n5_ := Aside0.mk (blk_below (g := gb833) (o := .cells #[.int .i64 t819, .int .i64 t820, .int .i64 t821, .string t822, .int .i64 t823, .slice Ao15 t824.length co15, .slice Ao16 t827.length co16, .int .i64 t830, .bool t831] 70 (0, 0)) (by (with_reducible repeat (first | refine blk_drewN ?_ _ | refine blk_drew ?_ | refine blk_alloc ?_ _)); refine blk_put (cs := #[.int .i64 t819, .int .i64 t820, .int .i64 t821, .string t822, .int .i64 t823, .slice Ao15 t824.length co15, .slice Ao16 t827.length co16, .int .i64 t830, .bool false]) ?_ 8 _ rfl; (with_reducible repeat (first | refine blk_drewN ?_ _ | refine blk_drew ?_ | refine blk_alloc ?_ _)); refine blk_put (cs := #[.int .i64 t819, .int .i64 t820, .int .i64 t821, .string t822, .int .i64 t823, .slice Ao15 t824.length co15, .slice Ao16 t827.length co16, .int .i64 0, .bool false]) ?_ 7 _ rfl; (with_reducible repeat (first | refine blk_drewN ?_ _ | refine blk_drew ?_ | refine blk_alloc ?_ _)); refine blk_put (cs := #[.int .i64 t819, .int .i64 t820, .int .i64 t821, .string t822, .int .i64 t823, .slice Ao15 t824.length co15, .slice none 0 0, .int .i64 0, .bool false]) ?_ 6 _ rfl; (with_reducible repeat (first | refine blk_drewN ?_ _ | refine blk_drew ?_ | refine blk_alloc ?_ _)); refine blk_put (cs := #[.int .i64 t819, .int .i64 t820, .int .i64 t821, .string t822, .int .i64 t823, .slice none 0 0, .slice none 0 0, .int .i64 0, .bool false]) ?_ 5 _ rfl; (with_reducible repeat (first | refine blk_drewN ?_ _ | refine blk_drew ?_ | refine blk_alloc ?_ _)); refine blk_put (cs := #[.int .i64 t819, .int .i64 t820, .int .i64 t821, .string t822, .int .i64 0, .slice none 0 0, .slice none 0 0, .int .i64 0, .bool false]) ?_ 4 _ rfl; (with_reducible repeat (first | refine blk_drewN ?_ _ | refine blk_drew ?_ | refine blk_alloc ?_ _)); refine blk_put (cs := #[.int .i64 t819, .int .i64 t820, .int .i64 t821, .string (⟨#[]⟩ : ByteArray), .int .i64 0, .slice none 0 0, .slice none 0 0, .int .i64 0, .bool false]) ?_ 3 _ rfl; (with_reducible repeat (first | refine blk_drewN ?_ _ | refine blk_drew ?_ | refine blk_alloc ?_ _)); refine blk_put (cs := #[.int .i64 t819, .int .i64 t820, .int .i64 0, .string (⟨#[]⟩ : ByteArray), .int .i64 0, .slice none 0 0, .slice none 0 0, .int .i64 0, .bool false]) ?_ 2 _ rfl; (with_reducible repeat (first | refine blk_drewN ?_ _ | refine blk_drew ?_ | refine blk_alloc ?_ _)); refine blk_put (cs := #[.int .i64 t819, .int .i64 0, .int .i64 0, .string (⟨#[]⟩ : ByteArray), .int .i64 0, .slice none 0 0, .slice none 0 0, .int .i64 0, .bool false]) ?_ 1 _ rfl; (with_reducible repeat (first | refine blk_drewN ?_ _ | refine blk_drew ?_ | refine blk_alloc ?_ _)); refine blk_put (cs := #[.int .i64 0, .int .i64 0, .int .i64 0, .string (⟨#[]⟩ : ByteArray), .int .i64 0, .slice none 0 0, .slice none 0 0, .int .i64 0, .bool false]) ?_ 0 _ rfl; (with_reducible repeat (first | refine blk_drewN ?_ _ | refine blk_drew ?_ | refine blk_alloc ?_ _)); exact BK833.out) hb); have n6_ := Aside0.mk (below_step (by repeat (first | (with_reducible first | exact HB.out | apply below_alloc | apply pw_below_drewN | apply below_drew1 | refine below_set ?_ GE818.out | refine below_set ?_ GE833.out) | exact HB.out)) hb); clear HO811; clear HO814; clear HO826; clear HO829; clear BK818; clear BK833; clear HB; have HO811 := n0_; have HO814 := n1_; have HO826 := n2_; have HO829 := n3_; have BK818 := n4_; have BK833 := n5_; have HB := n6_; clear n0_ n1_ n2_ n3_ n4_ n5_ n6_; (try clear hb); (try clear hb2); (try clear hk); (try clear hi)))
   go_meet
   case rel => exact ⟨_, ((t832 != t817)), (by first | rfl | (simp; done) | (simp [*]; done)), H', ⟨by first | omega | exact Nat.le_refl _⟩, ⟨by (with_reducible repeat (first | apply Kd.R_alloc | apply Kd.R_drewN | apply Kd.R_drew)); exact Kd.R_mono HO811.out (fun _ hk => ⟨hk.1.1, ⟨hk.1.2, hk.2⟩⟩)⟩, ⟨by (with_reducible repeat (first | apply Kd.R_alloc | apply Kd.R_drewN | apply Kd.R_drew)); exact Kd.R_mono HO814.out (fun _ hk => ⟨hk.1.1, ⟨hk.1.2, hk.2⟩⟩)⟩, ⟨by (with_reducible repeat (first | apply Kd.R_alloc | apply Kd.R_drewN | apply Kd.R_drew)); exact Kd.R_mono HO826.out (fun _ hk => ⟨hk.1.2, ⟨hk.2, hk.1.1⟩⟩)⟩, ⟨by (with_reducible repeat (first | apply Kd.R_alloc | apply Kd.R_drewN | apply Kd.R_drew)); exact Kd.R_mono HO829.out (fun _ hk => ⟨hk.1.2, ⟨hk.2, hk.1.1⟩⟩)⟩, ⟨by (with_reducible repeat (first | refine blk_drewN ?_ _ | refine blk_drew ?_ | refine blk_alloc ?_ _)); exact BK818.out⟩, ⟨by (with_reducible repeat (first | refine blk_drewN ?_ _ | refine blk_drew ?_ | refine blk_alloc ?_ _)); exact BK833.out⟩, ⟨by repeat (first | (with_reducible first | exact HB.out | apply below_alloc | apply pw_below_drewN | apply below_drew1 | refine below_set ?_ GE818.out | refine below_set ?_ GE833.out) | exact HB.out)⟩⟩
  ·replace c18 := Bool.eq_false_iff.mpr c18
   subst c18
   have H1 : (laws_FnExactNewSession.j0 k a0 a1 t817 true t804 t805 t806 t807 t808 t809 t812 t815 t816 t819 t820 t821 t822 t823 t824 t827 t830 t831) = some r := by rw [if_neg (show ¬ (false = true) by decide)] at H; exact H
   clear H
   have H := H1
   clear H1
   have H' := Aside0.mk H
   clear H
   have hnb23 := NB833_818.out
   have hnc23 := NB818_833.out
   have hcz24_0 : w12.cell? ⟨gb833, 0, none⟩ = some (.int .i64 0) := (blk_cell BK833.out 0).trans rfl
   have hcz24_1 : w12.cell? ⟨gb833, 1, none⟩ = some (.int .i64 0) := (blk_cell BK833.out 1).trans rfl
   have hcz24_2 : w12.cell? ⟨gb833, 2, none⟩ = some (.int .i64 0) := (blk_cell BK833.out 2).trans rfl
   have hcz24_3 : w12.cell? ⟨gb833, 3, none⟩ = some (.string (⟨#[]⟩ : ByteArray)) := (blk_cell BK833.out 3).trans rfl
   have hcz24_4 : w12.cell? ⟨gb833, 4, none⟩ = some (.int .i64 0) := (blk_cell BK833.out 4).trans rfl
   have hcz24_5 : w12.cell? ⟨gb833, 5, none⟩ = some (.slice none 0 0) := (blk_cell BK833.out 5).trans rfl
   have hcz24_6 : w12.cell? ⟨gb833, 6, none⟩ = some (.slice none 0 0) := (blk_cell BK833.out 6).trans rfl
   have hcz24_7 : w12.cell? ⟨gb833, 7, none⟩ = some (.int .i64 0) := (blk_cell BK833.out 7).trans rfl
   have hcz24_8 : w12.cell? ⟨gb833, 8, none⟩ = some (.bool false) := (blk_cell BK833.out 8).trans rfl
   have hfz24_0 := blk_frozen BK833.out 0
   have hfz24_1 := blk_frozen BK833.out 1
   have hfz24_2 := blk_frozen BK833.out 2
   have hfz24_3 := blk_frozen BK833.out 3
   have hfz24_4 := blk_frozen BK833.out 4
   have hfz24_5 := blk_frozen BK833.out 5
   have hfz24_6 := blk_frozen BK833.out 6
   have hfz24_7 := blk_frozen BK833.out 7
   have hfz24_8 := blk_frozen BK833.out 8
   have hcz25_0 : w12.cell? ⟨gb818, 0, none⟩ = some (.int .i64 t804) := (blk_cell BK818.out 0).trans rfl
   have hcz25_1 : w12.cell? ⟨gb818, 1, none⟩ = some (.int .i64 t805) := (blk_cell BK818.out 1).trans rfl
   have hcz25_2 : w12.cell? ⟨gb818, 2, none⟩ = some (.int .i64 t806) := (blk_cell BK818.out 2).trans rfl
   have hcz25_3 : w12.cell? ⟨gb818, 3, none⟩ = some (.string t807) := (blk_cell BK818.out 3).trans rfl
   have hcz25_4 : w12.cell? ⟨gb818, 4, none⟩ = some (.int .i64 t808) := (blk_cell BK818.out 4).trans rfl
   have hcz25_5 : w12.cell? ⟨gb818, 5, none⟩ = some (.slice Ao9 t809.length co9) := (blk_cell BK818.out 5).trans rfl
   have hcz25_6 : w12.cell? ⟨gb818, 6, none⟩ = some (.slice Ao10 t812.length co10) := (blk_cell BK818.out 6).trans rfl
   have hcz25_7 : w12.cell? ⟨gb818, 7, none⟩ = some (.int .i64 t815) := (blk_cell BK818.out 7).trans rfl
   have hcz25_8 : w12.cell? ⟨gb818, 8, none⟩ = some (.bool t816) := (blk_cell BK818.out 8).trans rfl
   have hfz25_0 := blk_frozen BK818.out 0
   have hfz25_1 := blk_frozen BK818.out 1
   have hfz25_2 := blk_frozen BK818.out 2
   have hfz25_3 := blk_frozen BK818.out 3
   have hfz25_4 := blk_frozen BK818.out 4
   have hfz25_5 := blk_frozen BK818.out 5
   have hfz25_6 := blk_frozen BK818.out 6
   have hfz25_7 := blk_frozen BK818.out 7
   have hfz25_8 := blk_frozen BK818.out 8
   go_wp2_with (first | ((with_reducible refine gate_callee (f := 51) rfl ?_); refine goesL_ (some 27) rfl rfl Try.func51 (by kernel_rfl) rfl #[.agg #[.int .i64 t819, .int .i64 t820, .int .i64 t821, .string t822, .int .i64 t823, .slice Ao15 t824.length co15, .slice Ao16 t827.length co16, .int .i64 t830, .bool t831], .agg #[.int .i64 t804, .int .i64 t805, .int .i64 t806, .string t807, .int .i64 t808, .slice Ao9 t809.length co9, .slice Ao10 t812.length co10, .int .i64 t815, .bool t816]] rfl (by (try simp only [List.map_toArray, List.map_cons, List.map_nil]); first | done | rfl | (simp only [List.length_drop, List.length_take]; rfl)) ?_; (with_reducible refine (laws_eqSession.calls k t819 t820 t821 t822 t823 _ _ t824 _ _ t827 t830 t831 t804 t805 t806 t807 t808 _ _ t809 _ _ t812 t815 t816 false _ ?side1 ?side2 ?side3 ?side4 ?side5 ?side6 ?side7 ?side8 A17.out).mono ?_); (case side1 => refine (Kd.R_reads' (e := 3) (base := w.heap.size) (ok := fun k_ => ((some k_ ≠ (.slice Ao16 t827.length co16 : Value).ownBlock ∧ some k_ ≠ (.slice Ao9 t809.length co9 : Value).ownBlock) ∧ some k_ ≠ (.slice Ao10 t812.length co10 : Value).ownBlock)) (n := t824.length) (c := co15) ?_).2.2; exact (by (with_reducible repeat (first | apply Kd.R_alloc | apply Kd.R_drewN | apply Kd.R_drew)); exact (Kd.R_mono (Kd.R_far (p := ⟨gb833, 8, none⟩) (Kd.R_far (p := ⟨gb833, 7, none⟩) (Kd.R_far (p := ⟨gb833, 6, none⟩) (Kd.R_far (p := ⟨gb833, 5, none⟩) (Kd.R_far (p := ⟨gb833, 4, none⟩) (Kd.R_far (p := ⟨gb833, 3, none⟩) (Kd.R_far (p := ⟨gb833, 2, none⟩) (Kd.R_far (p := ⟨gb833, 1, none⟩) (Kd.R_far (p := ⟨gb833, 0, none⟩) (Kd.R_types HO826.out BK833.out (by decide)) (fun _ hk => hk.2) (.int .i64 t819)) (fun _ hk => hk.2) (.int .i64 t820)) (fun _ hk => hk.2) (.int .i64 t821)) (fun _ hk => hk.2) (.string t822)) (fun _ hk => hk.2) (.int .i64 t823)) (fun _ hk => hk.2) (.slice Ao15 t824.length co15)) (fun _ hk => hk.2) (.slice Ao16 t827.length co16)) (fun _ hk => hk.2) (.int .i64 t830)) (fun _ hk => hk.2) (.bool t831)) (fun _ h_ => h_.1)))); (case side2 => exact (Kd.R_reads' HO826.out).2.1); (case side3 => refine (Kd.R_reads' (e := 3) (base := w.heap.size) (ok := fun k_ => ((some k_ ≠ (.slice Ao15 t824.length co15 : Value).ownBlock ∧ some k_ ≠ (.slice Ao9 t809.length co9 : Value).ownBlock) ∧ some k_ ≠ (.slice Ao10 t812.length co10 : Value).ownBlock)) (n := t827.length) (c := co16) ?_).2.2; exact (by (with_reducible repeat (first | apply Kd.R_alloc | apply Kd.R_drewN | apply Kd.R_drew)); exact (Kd.R_mono (Kd.R_far (p := ⟨gb833, 8, none⟩) (Kd.R_far (p := ⟨gb833, 7, none⟩) (Kd.R_far (p := ⟨gb833, 6, none⟩) (Kd.R_far (p := ⟨gb833, 5, none⟩) (Kd.R_far (p := ⟨gb833, 4, none⟩) (Kd.R_far (p := ⟨gb833, 3, none⟩) (Kd.R_far (p := ⟨gb833, 2, none⟩) (Kd.R_far (p := ⟨gb833, 1, none⟩) (Kd.R_far (p := ⟨gb833, 0, none⟩) (Kd.R_types HO829.out BK833.out (by decide)) (fun _ hk => hk.2) (.int .i64 t819)) (fun _ hk => hk.2) (.int .i64 t820)) (fun _ hk => hk.2) (.int .i64 t821)) (fun _ hk => hk.2) (.string t822)) (fun _ hk => hk.2) (.int .i64 t823)) (fun _ hk => hk.2) (.slice Ao15 t824.length co15)) (fun _ hk => hk.2) (.slice Ao16 t827.length co16)) (fun _ hk => hk.2) (.int .i64 t830)) (fun _ hk => hk.2) (.bool t831)) (fun _ h_ => h_.1)))); (case side4 => exact (Kd.R_reads' HO829.out).2.1); (case side5 => refine (Kd.R_reads' (e := 3) (base := w.heap.size) (ok := fun k_ => ((some k_ ≠ (.slice Ao10 t812.length co10 : Value).ownBlock ∧ some k_ ≠ (.slice Ao15 t824.length co15 : Value).ownBlock) ∧ some k_ ≠ (.slice Ao16 t827.length co16 : Value).ownBlock)) (n := t809.length) (c := co9) ?_).2.2; exact (by (with_reducible repeat (first | apply Kd.R_alloc | apply Kd.R_drewN | apply Kd.R_drew)); exact (Kd.R_mono (Kd.R_far (p := ⟨gb833, 8, none⟩) (Kd.R_far (p := ⟨gb833, 7, none⟩) (Kd.R_far (p := ⟨gb833, 6, none⟩) (Kd.R_far (p := ⟨gb833, 5, none⟩) (Kd.R_far (p := ⟨gb833, 4, none⟩) (Kd.R_far (p := ⟨gb833, 3, none⟩) (Kd.R_far (p := ⟨gb833, 2, none⟩) (Kd.R_far (p := ⟨gb833, 1, none⟩) (Kd.R_far (p := ⟨gb833, 0, none⟩) (Kd.R_types HO811.out BK833.out (by decide)) (fun _ hk => hk.2) (.int .i64 t819)) (fun _ hk => hk.2) (.int .i64 t820)) (fun _ hk => hk.2) (.int .i64 t821)) (fun _ hk => hk.2) (.string t822)) (fun _ hk => hk.2) (.int .i64 t823)) (fun _ hk => hk.2) (.slice Ao15 t824.length co15)) (fun _ hk => hk.2) (.slice Ao16 t827.length co16)) (fun _ hk => hk.2) (.int .i64 t830)) (fun _ hk => hk.2) (.bool t831)) (fun _ h_ => h_.1)))); (case side6 => exact (Kd.R_reads' HO811.out).2.1); (case side7 => refine (Kd.R_reads' (e := 3) (base := w.heap.size) (ok := fun k_ => ((some k_ ≠ (.slice Ao9 t809.length co9 : Value).ownBlock ∧ some k_ ≠ (.slice Ao15 t824.length co15 : Value).ownBlock) ∧ some k_ ≠ (.slice Ao16 t827.length co16 : Value).ownBlock)) (n := t812.length) (c := co10) ?_).2.2; exact (by (with_reducible repeat (first | apply Kd.R_alloc | apply Kd.R_drewN | apply Kd.R_drew)); exact (Kd.R_mono (Kd.R_far (p := ⟨gb833, 8, none⟩) (Kd.R_far (p := ⟨gb833, 7, none⟩) (Kd.R_far (p := ⟨gb833, 6, none⟩) (Kd.R_far (p := ⟨gb833, 5, none⟩) (Kd.R_far (p := ⟨gb833, 4, none⟩) (Kd.R_far (p := ⟨gb833, 3, none⟩) (Kd.R_far (p := ⟨gb833, 2, none⟩) (Kd.R_far (p := ⟨gb833, 1, none⟩) (Kd.R_far (p := ⟨gb833, 0, none⟩) (Kd.R_types HO814.out BK833.out (by decide)) (fun _ hk => hk.2) (.int .i64 t819)) (fun _ hk => hk.2) (.int .i64 t820)) (fun _ hk => hk.2) (.int .i64 t821)) (fun _ hk => hk.2) (.string t822)) (fun _ hk => hk.2) (.int .i64 t823)) (fun _ hk => hk.2) (.slice Ao15 t824.length co15)) (fun _ hk => hk.2) (.slice Ao16 t827.length co16)) (fun _ hk => hk.2) (.int .i64 t830)) (fun _ hk => hk.2) (.bool t831)) (fun _ h_ => h_.1)))); (case side8 => exact (Kd.R_reads' HO814.out).2.1); rintro e w26 ⟨rfl, hb⟩; refine ⟨_, rfl, ?_⟩; have n0_ := Aside0.mk (Kd.R_below (by (with_reducible repeat (first | apply Kd.R_alloc | apply Kd.R_drewN | apply Kd.R_drew)); exact (Kd.R_mono (Kd.R_far (p := ⟨gb833, 8, none⟩) (Kd.R_far (p := ⟨gb833, 7, none⟩) (Kd.R_far (p := ⟨gb833, 6, none⟩) (Kd.R_far (p := ⟨gb833, 5, none⟩) (Kd.R_far (p := ⟨gb833, 4, none⟩) (Kd.R_far (p := ⟨gb833, 3, none⟩) (Kd.R_far (p := ⟨gb833, 2, none⟩) (Kd.R_far (p := ⟨gb833, 1, none⟩) (Kd.R_far (p := ⟨gb833, 0, none⟩) (Kd.R_types HO811.out BK833.out (by decide)) (fun _ hk => hk.2) (.int .i64 t819)) (fun _ hk => hk.2) (.int .i64 t820)) (fun _ hk => hk.2) (.int .i64 t821)) (fun _ hk => hk.2) (.string t822)) (fun _ hk => hk.2) (.int .i64 t823)) (fun _ hk => hk.2) (.slice Ao15 t824.length co15)) (fun _ hk => hk.2) (.slice Ao16 t827.length co16)) (fun _ hk => hk.2) (.int .i64 t830)) (fun _ hk => hk.2) (.bool t831)) (fun _ h_ => h_.1))) hb); have n1_ := Aside0.mk (Kd.R_below (by (with_reducible repeat (first | apply Kd.R_alloc | apply Kd.R_drewN | apply Kd.R_drew)); exact (Kd.R_mono (Kd.R_far (p := ⟨gb833, 8, none⟩) (Kd.R_far (p := ⟨gb833, 7, none⟩) (Kd.R_far (p := ⟨gb833, 6, none⟩) (Kd.R_far (p := ⟨gb833, 5, none⟩) (Kd.R_far (p := ⟨gb833, 4, none⟩) (Kd.R_far (p := ⟨gb833, 3, none⟩) (Kd.R_far (p := ⟨gb833, 2, none⟩) (Kd.R_far (p := ⟨gb833, 1, none⟩) (Kd.R_far (p := ⟨gb833, 0, none⟩) (Kd.R_types HO814.out BK833.out (by decide)) (fun _ hk => hk.2) (.int .i64 t819)) (fun _ hk => hk.2) (.int .i64 t820)) (fun _ hk => hk.2) (.int .i64 t821)) (fun _ hk => hk.2) (.string t822)) (fun _ hk => hk.2) (.int .i64 t823)) (fun _ hk => hk.2) (.slice Ao15 t824.length co15)) (fun _ hk => hk.2) (.slice Ao16 t827.length co16)) (fun _ hk => hk.2) (.int .i64 t830)) (fun _ hk => hk.2) (.bool t831)) (fun _ h_ => h_.1))) hb); have n2_ := Aside0.mk (Kd.R_below (by (with_reducible repeat (first | apply Kd.R_alloc | apply Kd.R_drewN | apply Kd.R_drew)); exact (Kd.R_mono (Kd.R_far (p := ⟨gb833, 8, none⟩) (Kd.R_far (p := ⟨gb833, 7, none⟩) (Kd.R_far (p := ⟨gb833, 6, none⟩) (Kd.R_far (p := ⟨gb833, 5, none⟩) (Kd.R_far (p := ⟨gb833, 4, none⟩) (Kd.R_far (p := ⟨gb833, 3, none⟩) (Kd.R_far (p := ⟨gb833, 2, none⟩) (Kd.R_far (p := ⟨gb833, 1, none⟩) (Kd.R_far (p := ⟨gb833, 0, none⟩) (Kd.R_types HO826.out BK833.out (by decide)) (fun _ hk => hk.2) (.int .i64 t819)) (fun _ hk => hk.2) (.int .i64 t820)) (fun _ hk => hk.2) (.int .i64 t821)) (fun _ hk => hk.2) (.string t822)) (fun _ hk => hk.2) (.int .i64 t823)) (fun _ hk => hk.2) (.slice Ao15 t824.length co15)) (fun _ hk => hk.2) (.slice Ao16 t827.length co16)) (fun _ hk => hk.2) (.int .i64 t830)) (fun _ hk => hk.2) (.bool t831)) (fun _ h_ => h_.1))) hb); have n3_ := Aside0.mk (Kd.R_below (by (with_reducible repeat (first | apply Kd.R_alloc | apply Kd.R_drewN | apply Kd.R_drew)); exact (Kd.R_mono (Kd.R_far (p := ⟨gb833, 8, none⟩) (Kd.R_far (p := ⟨gb833, 7, none⟩) (Kd.R_far (p := ⟨gb833, 6, none⟩) (Kd.R_far (p := ⟨gb833, 5, none⟩) (Kd.R_far (p := ⟨gb833, 4, none⟩) (Kd.R_far (p := ⟨gb833, 3, none⟩) (Kd.R_far (p := ⟨gb833, 2, none⟩) (Kd.R_far (p := ⟨gb833, 1, none⟩) (Kd.R_far (p := ⟨gb833, 0, none⟩) (Kd.R_types HO829.out BK833.out (by decide)) (fun _ hk => hk.2) (.int .i64 t819)) (fun _ hk => hk.2) (.int .i64 t820)) (fun _ hk => hk.2) (.int .i64 t821)) (fun _ hk => hk.2) (.string t822)) (fun _ hk => hk.2) (.int .i64 t823)) (fun _ hk => hk.2) (.slice Ao15 t824.length co15)) (fun _ hk => hk.2) (.slice Ao16 t827.length co16)) (fun _ hk => hk.2) (.int .i64 t830)) (fun _ hk => hk.2) (.bool t831)) (fun _ h_ => h_.1))) hb); have n4_ := Aside0.mk (blk_below (g := gb818) (o := .cells #[.int .i64 t804, .int .i64 t805, .int .i64 t806, .string t807, .int .i64 t808, .slice Ao9 t809.length co9, .slice Ao10 t812.length co10, .int .i64 t815, .bool t816] 70 (0, 0)) (by (with_reducible repeat (first | refine blk_drewN ?_ _ | refine blk_drew ?_ | refine blk_alloc ?_ _)); refine blk_far ?_ NB818_833.out _; (with_reducible repeat (first | refine blk_drewN ?_ _ | refine blk_drew ?_ | refine blk_alloc ?_ _)); refine blk_far ?_ NB818_833.out _; (with_reducible repeat (first | refine blk_drewN ?_ _ | refine blk_drew ?_ | refine blk_alloc ?_ _)); refine blk_far ?_ NB818_833.out _; (with_reducible repeat (first | refine blk_drewN ?_ _ | refine blk_drew ?_ | refine blk_alloc ?_ _)); refine blk_far ?_ NB818_833.out _; (with_reducible repeat (first | refine blk_drewN ?_ _ | refine blk_drew ?_ | refine blk_alloc ?_ _)); refine blk_far ?_ NB818_833.out _; (with_reducible repeat (first | refine blk_drewN ?_ _ | refine blk_drew ?_ | refine blk_alloc ?_ _)); refine blk_far ?_ NB818_833.out _; (with_reducible repeat (first | refine blk_drewN ?_ _ | refine blk_drew ?_ | refine blk_alloc ?_ _)); refine blk_far ?_ NB818_833.out _; (with_reducible repeat (first | refine blk_drewN ?_ _ | refine blk_drew ?_ | refine blk_alloc ?_ _)); refine blk_far ?_ NB818_833.out _; (with_reducible repeat (first | refine blk_drewN ?_ _ | refine blk_drew ?_ | refine blk_alloc ?_ _)); refine blk_far ?_ NB818_833.out _; (with_reducible repeat (first | refine blk_drewN ?_ _ | refine blk_drew ?_ | refine blk_alloc ?_ _)); exact BK818.out) hb); have n5_ := Aside0.mk (blk_below (g := gb833) (o := .cells #[.int .i64 t819, .int .i64 t820, .int .i64 t821, .string t822, .int .i64 t823, .slice Ao15 t824.length co15, .slice Ao16 t827.length co16, .int .i64 t830, .bool t831] 70 (0, 0)) (by (with_reducible repeat (first | refine blk_drewN ?_ _ | refine blk_drew ?_ | refine blk_alloc ?_ _)); refine blk_put (cs := #[.int .i64 t819, .int .i64 t820, .int .i64 t821, .string t822, .int .i64 t823, .slice Ao15 t824.length co15, .slice Ao16 t827.length co16, .int .i64 t830, .bool false]) ?_ 8 _ rfl; (with_reducible repeat (first | refine blk_drewN ?_ _ | refine blk_drew ?_ | refine blk_alloc ?_ _)); refine blk_put (cs := #[.int .i64 t819, .int .i64 t820, .int .i64 t821, .string t822, .int .i64 t823, .slice Ao15 t824.length co15, .slice Ao16 t827.length co16, .int .i64 0, .bool false]) ?_ 7 _ rfl; (with_reducible repeat (first | refine blk_drewN ?_ _ | refine blk_drew ?_ | refine blk_alloc ?_ _)); refine blk_put (cs := #[.int .i64 t819, .int .i64 t820, .int .i64 t821, .string t822, .int .i64 t823, .slice Ao15 t824.length co15, .slice none 0 0, .int .i64 0, .bool false]) ?_ 6 _ rfl; (with_reducible repeat (first | refine blk_drewN ?_ _ | refine blk_drew ?_ | refine blk_alloc ?_ _)); refine blk_put (cs := #[.int .i64 t819, .int .i64 t820, .int .i64 t821, .string t822, .int .i64 t823, .slice none 0 0, .slice none 0 0, .int .i64 0, .bool false]) ?_ 5 _ rfl; (with_reducible repeat (first | refine blk_drewN ?_ _ | refine blk_drew ?_ | refine blk_alloc ?_ _)); refine blk_put (cs := #[.int .i64 t819, .int .i64 t820, .int .i64 t821, .string t822, .int .i64 0, .slice none 0 0, .slice none 0 0, .int .i64 0, .bool false]) ?_ 4 _ rfl; (with_reducible repeat (first | refine blk_drewN ?_ _ | refine blk_drew ?_ | refine blk_alloc ?_ _)); refine blk_put (cs := #[.int .i64 t819, .int .i64 t820, .int .i64 t821, .string (⟨#[]⟩ : ByteArray), .int .i64 0, .slice none 0 0, .slice none 0 0, .int .i64 0, .bool false]) ?_ 3 _ rfl; (with_reducible repeat (first | refine blk_drewN ?_ _ | refine blk_drew ?_ | refine blk_alloc ?_ _)); refine blk_put (cs := #[.int .i64 t819, .int .i64 t820, .int .i64 0, .string (⟨#[]⟩ : ByteArray), .int .i64 0, .slice none 0 0, .slice none 0 0, .int .i64 0, .bool false]) ?_ 2 _ rfl; (with_reducible repeat (first | refine blk_drewN ?_ _ | refine blk_drew ?_ | refine blk_alloc ?_ _)); refine blk_put (cs := #[.int .i64 t819, .int .i64 0, .int .i64 0, .string (⟨#[]⟩ : ByteArray), .int .i64 0, .slice none 0 0, .slice none 0 0, .int .i64 0, .bool false]) ?_ 1 _ rfl; (with_reducible repeat (first | refine blk_drewN ?_ _ | refine blk_drew ?_ | refine blk_alloc ?_ _)); refine blk_put (cs := #[.int .i64 0, .int .i64 0, .int .i64 0, .string (⟨#[]⟩ : ByteArray), .int .i64 0, .slice none 0 0, .slice none 0 0, .int .i64 0, .bool false]) ?_ 0 _ rfl; (with_reducible repeat (first | refine blk_drewN ?_ _ | refine blk_drew ?_ | refine blk_alloc ?_ _)); exact BK833.out) hb); have n6_ := Aside0.mk (below_step (by repeat (first | (with_reducible first | exact HB.out | apply below_alloc | apply pw_below_drewN | apply below_drew1 | refine below_set ?_ GE818.out | refine below_set ?_ GE833.out) | exact HB.out)) hb); clear HO811; clear HO814; clear HO826; clear HO829; clear BK818; clear BK833; clear HB; have HO811 := n0_; have HO814 := n1_; have HO826 := n2_; have HO829 := n3_; have BK818 := n4_; have BK833 := n5_; have HB := n6_; clear n0_ n1_ n2_ n3_ n4_ n5_ n6_; (try clear hb); (try clear hb2); (try clear hk); (try clear hi)))
   go_meet
   case rel => exact ⟨_, (true), (by first | rfl | (simp; done) | (simp [*]; done)), H', ⟨by first | omega | exact Nat.le_refl _⟩, ⟨by (with_reducible repeat (first | apply Kd.R_alloc | apply Kd.R_drewN | apply Kd.R_drew)); exact Kd.R_mono HO811.out (fun _ hk => ⟨hk.1.1, ⟨hk.1.2, hk.2⟩⟩)⟩, ⟨by (with_reducible repeat (first | apply Kd.R_alloc | apply Kd.R_drewN | apply Kd.R_drew)); exact Kd.R_mono HO814.out (fun _ hk => ⟨hk.1.1, ⟨hk.1.2, hk.2⟩⟩)⟩, ⟨by (with_reducible repeat (first | apply Kd.R_alloc | apply Kd.R_drewN | apply Kd.R_drew)); exact Kd.R_mono HO826.out (fun _ hk => ⟨hk.1.2, ⟨hk.2, hk.1.1⟩⟩)⟩, ⟨by (with_reducible repeat (first | apply Kd.R_alloc | apply Kd.R_drewN | apply Kd.R_drew)); exact Kd.R_mono HO829.out (fun _ hk => ⟨hk.1.2, ⟨hk.2, hk.1.1⟩⟩)⟩, ⟨by (with_reducible repeat (first | refine blk_drewN ?_ _ | refine blk_drew ?_ | refine blk_alloc ?_ _)); exact BK818.out⟩, ⟨by (with_reducible repeat (first | refine blk_drewN ?_ _ | refine blk_drew ?_ | refine blk_alloc ?_ _)); exact BK833.out⟩, ⟨by repeat (first | (with_reducible first | exact HB.out | apply below_alloc | apply pw_below_drewN | apply below_drew1 | refine below_set ?_ GE818.out | refine below_set ?_ GE833.out) | exact HB.out)⟩⟩
 case rest =>
  clear HC5
  try clear c1
  try clear c2
  try clear p2
  try clear c4
  try clear c5
  try clear c13
  try clear c18
  try clear c19
  try clear c23
  try clear hcz14_0
  try clear hcz14_1
  try clear hcz14_2
  try clear hcz14_3
  try clear hcz14_4
  try clear hcz14_5
  try clear hcz14_6
  try clear hcz14_7
  try clear hcz14_8
  try clear hcz20_0
  try clear hcz20_1
  try clear hcz20_2
  try clear hcz20_3
  try clear hcz20_4
  try clear hcz20_5
  try clear hcz20_6
  try clear hcz20_7
  try clear hcz20_8
  try clear hcz21_0
  try clear hcz21_1
  try clear hcz21_2
  try clear hcz21_3
  try clear hcz21_4
  try clear hcz21_5
  try clear hcz21_6
  try clear hcz21_7
  try clear hcz21_8
  try clear hcz24_0
  try clear hcz24_1
  try clear hcz24_2
  try clear hcz24_3
  try clear hcz24_4
  try clear hcz24_5
  try clear hcz24_6
  try clear hcz24_7
  try clear hcz24_8
  try clear hcz25_0
  try clear hcz25_1
  try clear hcz25_2
  try clear hcz25_3
  try clear hcz25_4
  try clear hcz25_5
  try clear hcz25_6
  try clear hcz25_7
  try clear hcz25_8
  try clear hcz8_0
  try clear hcz8_1
  try clear hcz8_2
  try clear hcz8_3
  try clear hcz8_4
  try clear hcz8_5
  try clear hcz8_6
  try clear hcz8_7
  try clear hcz8_8
  try clear hfz14_0
  try clear hfz14_1
  try clear hfz14_2
  try clear hfz14_3
  try clear hfz14_4
  try clear hfz14_5
  try clear hfz14_6
  try clear hfz14_7
  try clear hfz14_8
  try clear hfz20_0
  try clear hfz20_1
  try clear hfz20_2
  try clear hfz20_3
  try clear hfz20_4
  try clear hfz20_5
  try clear hfz20_6
  try clear hfz20_7
  try clear hfz20_8
  try clear hfz21_0
  try clear hfz21_1
  try clear hfz21_2
  try clear hfz21_3
  try clear hfz21_4
  try clear hfz21_5
  try clear hfz21_6
  try clear hfz21_7
  try clear hfz21_8
  try clear hfz24_0
  try clear hfz24_1
  try clear hfz24_2
  try clear hfz24_3
  try clear hfz24_4
  try clear hfz24_5
  try clear hfz24_6
  try clear hfz24_7
  try clear hfz24_8
  try clear hfz25_0
  try clear hfz25_1
  try clear hfz25_2
  try clear hfz25_3
  try clear hfz25_4
  try clear hfz25_5
  try clear hfz25_6
  try clear hfz25_7
  try clear hfz25_8
  try clear hfz8_0
  try clear hfz8_1
  try clear hfz8_2
  try clear hfz8_3
  try clear hfz8_4
  try clear hfz8_5
  try clear hfz8_6
  try clear hfz8_7
  try clear hfz8_8
  obtain ⟨kq, x33_4, rfl, HA, HJ4, HO_819005, HO_819006, HO_834005, HO_834006, BK818, BK833, HB⟩ := hcut
  cases kq with
  | zero => exact absurd HA.out (by simp [laws_FnExactNewSession.j0])
  | succ kj4 =>
   have H := HA.out
   clear HA
   simp only [laws_FnExactNewSession.j0] at H
   by_cases c27 : x33_4 = true
   ·subst c27
    have H1 : (some false) = some r := by rw [if_pos rfl] at H; exact H
    clear H
    have H := H1
    clear H1
    obtain rfl := Option.some.inj H
    go_wp2
    go_ret
    exact ⟨by first | rfl | (simp [errW_none, errW_some] <;> rfl) | (simp [*, errW_none, errW_some] <;> rfl), by repeat (first | (with_reducible first | exact HB.out | apply below_alloc | apply pw_below_drewN | apply below_drew1 | refine below_set ?_ GE818.out | refine below_set ?_ GE833.out) | exact HB.out)⟩
   ·replace c27 := Bool.eq_false_iff.mpr c27
    subst c27
    have H1 : ((laws_markSession.f kj4 t819 t820 t821 t822 t823 t824 t827 t830 t831 1).bind fun bt835 => ((laws_heldSession.f kj4 t819 t820 t821 t822 t823 bt835.2.1 bt835.2.2 t830 t831 1).bind fun t838 => (if t838 < 0 then (some false) else (if t838 = bt835.1 then ((impl_NewSession.f a0 a1).bind fun bt839 => ((laws_eqSession.f kj4 bt839.1 bt839.2.1 bt839.2.2.1 bt839.2.2.2.1 bt839.2.2.2.2.1 bt839.2.2.2.2.2.1 bt839.2.2.2.2.2.2.1 bt839.2.2.2.2.2.2.2.1 bt839.2.2.2.2.2.2.2.2.1 t804 t805 t806 t807 t808 t809 t812 t815 t816).bind fun t854 => (if t854 = true then (laws_FnExactNewSession.j1 kj4 bt835.1 (bt839.2.2.2.2.2.2.2.2.2 != t817) t819 t820 t821 t822 t823 bt835.2.1 bt835.2.2 t830 t831) else (laws_FnExactNewSession.j1 kj4 bt835.1 true t819 t820 t821 t822 t823 bt835.2.1 bt835.2.2 t830 t831)))) else (some false))))) = some r := by rw [if_neg (show ¬ (false = true) by decide)] at H; exact H
    clear H
    have H := H1
    clear H1
    replace H := Option.bind_eq_some_iff.mp H
    obtain ⟨⟨t835, t836, t837⟩, A280, H⟩ := H
    replace H : ((laws_heldSession.f kj4 t819 t820 t821 t822 t823 t836 t837 t830 t831 1).bind fun t838 => (if t838 < 0 then (some false) else (if t838 = t835 then ((impl_NewSession.f a0 a1).bind fun bt839 => ((laws_eqSession.f kj4 bt839.1 bt839.2.1 bt839.2.2.1 bt839.2.2.2.1 bt839.2.2.2.2.1 bt839.2.2.2.2.2.1 bt839.2.2.2.2.2.2.1 bt839.2.2.2.2.2.2.2.1 bt839.2.2.2.2.2.2.2.2.1 t804 t805 t806 t807 t808 t809 t812 t815 t816).bind fun t854 => (if t854 = true then (laws_FnExactNewSession.j1 kj4 t835 (bt839.2.2.2.2.2.2.2.2.2 != t817) t819 t820 t821 t822 t823 t836 t837 t830 t831) else (laws_FnExactNewSession.j1 kj4 t835 true t819 t820 t821 t822 t823 t836 t837 t830 t831)))) else (some false)))) = some r := H
    have A28 := Aside0.mk A280
    clear A280
    replace H := Option.bind_eq_some_iff.mp H
    obtain ⟨t838, A290, H⟩ := H
    replace H : (if t838 < 0 then (some false) else (if t838 = t835 then ((impl_NewSession.f a0 a1).bind fun bt839 => ((laws_eqSession.f kj4 bt839.1 bt839.2.1 bt839.2.2.1 bt839.2.2.2.1 bt839.2.2.2.2.1 bt839.2.2.2.2.2.1 bt839.2.2.2.2.2.2.1 bt839.2.2.2.2.2.2.2.1 bt839.2.2.2.2.2.2.2.2.1 t804 t805 t806 t807 t808 t809 t812 t815 t816).bind fun t854 => (if t854 = true then (laws_FnExactNewSession.j1 kj4 t835 (bt839.2.2.2.2.2.2.2.2.2 != t817) t819 t820 t821 t822 t823 t836 t837 t830 t831) else (laws_FnExactNewSession.j1 kj4 t835 true t819 t820 t821 t822 t823 t836 t837 t830 t831)))) else (some false))) = some r := H
    have A29 := Aside0.mk A290
    clear A290
    by_cases c30 : t838 < 0
    ·rw [if_pos c30] at H
     have c30b0 : decide (t838 < 0) = true := decide_eq_true c30
     clear c30
     obtain rfl := Option.some.inj H
     have hnb31 := NB833_818.out
     have hnc31 := NB818_833.out
     have hcz32_0 : wc.cell? ⟨gb833, 0, none⟩ = some (.int .i64 t819) := (blk_cell BK833.out 0).trans rfl
     have hcz32_1 : wc.cell? ⟨gb833, 1, none⟩ = some (.int .i64 t820) := (blk_cell BK833.out 1).trans rfl
     have hcz32_2 : wc.cell? ⟨gb833, 2, none⟩ = some (.int .i64 t821) := (blk_cell BK833.out 2).trans rfl
     have hcz32_3 : wc.cell? ⟨gb833, 3, none⟩ = some (.string t822) := (blk_cell BK833.out 3).trans rfl
     have hcz32_4 : wc.cell? ⟨gb833, 4, none⟩ = some (.int .i64 t823) := (blk_cell BK833.out 4).trans rfl
     have hcz32_5 : wc.cell? ⟨gb833, 5, none⟩ = some (.slice Ao15 t824.length co15) := (blk_cell BK833.out 5).trans rfl
     have hcz32_6 : wc.cell? ⟨gb833, 6, none⟩ = some (.slice Ao16 t827.length co16) := (blk_cell BK833.out 6).trans rfl
     have hcz32_7 : wc.cell? ⟨gb833, 7, none⟩ = some (.int .i64 t830) := (blk_cell BK833.out 7).trans rfl
     have hcz32_8 : wc.cell? ⟨gb833, 8, none⟩ = some (.bool t831) := (blk_cell BK833.out 8).trans rfl
     have hfz32_0 := blk_frozen BK833.out 0
     have hfz32_1 := blk_frozen BK833.out 1
     have hfz32_2 := blk_frozen BK833.out 2
     have hfz32_3 := blk_frozen BK833.out 3
     have hfz32_4 := blk_frozen BK833.out 4
     have hfz32_5 := blk_frozen BK833.out 5
     have hfz32_6 := blk_frozen BK833.out 6
     have hfz32_7 := blk_frozen BK833.out 7
     have hfz32_8 := blk_frozen BK833.out 8
     go_wp2_with (first | ((with_reducible refine gate_callee (f := 52) rfl ?_); refine goesL_ (some 36) rfl rfl Try.func52 (by kernel_rfl) rfl #[.agg #[.int .i64 t819, .int .i64 t820, .int .i64 t821, .string t822, .int .i64 t823, .slice Ao15 t824.length co15, .slice Ao16 t827.length co16, .int .i64 t830, .bool t831], .int .i64 1] rfl (by (try simp only [List.map_toArray, List.map_cons, List.map_nil]); first | done | rfl | (simp only [List.length_drop, List.length_take]; rfl)) ?_; (with_reducible refine (laws_markSession.calls kj4 t819 t820 t821 t822 t823 (fun k_ => some k_ = (.slice Ao15 t824.length co15 : Value).ownBlock) (.slice Ao15 t824.length co15) t824 (fun k_ => some k_ = (.slice Ao16 t827.length co16 : Value).ownBlock) (.slice Ao16 t827.length co16) t827 t830 t831 1 t835 t836 t837 w _ ?side1 ?side2 ?side3 ?side4 ?side5 A28.out).mono ?_); (case side1 => repeat (first | (with_reducible first | exact HB.out | apply below_alloc | apply pw_below_drewN | apply below_drew1 | refine below_set ?_ GE818.out | refine below_set ?_ GE833.out) | exact HB.out)); (case side2 => exact Kd.R_tight rfl HO_834005.out); (case side3 => exact fun k_ e_ => (HO_834005.out.1 k_ e_.symm).2.2); (case side4 => exact Kd.R_tight rfl HO_834006.out); (case side5 => exact fun k_ e_ => (HO_834006.out.1 k_ e_.symm).2.2); rintro e w33 ⟨rfl, hy0, hy1, hb, hkp⟩; refine ⟨_, rfl, ?_⟩; have n0_ := Aside0.mk (Kd.R_mono (ok' := fun k_ => some k_ ≠ (.slice Ao10 t812.length co10 : Value).ownBlock ∧ some k_ ≠ (.slice Ao15 t824.length co15 : Value).ownBlock ∧ some k_ ≠ (.slice Ao16 t827.length co16 : Value).ownBlock) (Kd.R_keptB (HO_819005.out) hkp (fun k_ hk_ hs_ => Or.elim hs_ (fun e_ => (hk_.2.1) e_) (fun e_ => (hk_.2.2) e_))) (fun k_ hk_ => ⟨hk_.1.1, hk_.1.2.1, hk_.1.2.2⟩)); have n1_ := Aside0.mk (Kd.R_mono (ok' := fun k_ => some k_ ≠ (.slice Ao9 t809.length co9 : Value).ownBlock ∧ some k_ ≠ (.slice Ao15 t824.length co15 : Value).ownBlock ∧ some k_ ≠ (.slice Ao16 t827.length co16 : Value).ownBlock) (Kd.R_keptB (HO_819006.out) hkp (fun k_ hk_ hs_ => Or.elim hs_ (fun e_ => (hk_.2.1) e_) (fun e_ => (hk_.2.2) e_))) (fun k_ hk_ => ⟨hk_.1.1, hk_.1.2.1, hk_.1.2.2⟩)); have n2_ := Aside0.mk (Kd.R_reok rfl hy0 (fun k_ e_ => HO_834005.out.1 k_ e_)); have n3_ := Aside0.mk (Kd.R_reok rfl hy1 (fun k_ e_ => HO_834006.out.1 k_ e_)); have n4_ := Aside0.mk (blk_kept (by (with_reducible repeat (first | refine blk_drewN ?_ _ | refine blk_drew ?_ | refine blk_alloc ?_ _)); exact BK818.out) hkp (fun hs_ => Or.elim hs_ (fun e_ => (fun e_ => (Kd.R_ne HO_834005.out BK818.out (by decide)) e_) e_) (fun e_ => (fun e_ => (Kd.R_ne HO_834006.out BK818.out (by decide)) e_) e_))); have n5_ := Aside0.mk (blk_kept (by (with_reducible repeat (first | refine blk_drewN ?_ _ | refine blk_drew ?_ | refine blk_alloc ?_ _)); exact BK833.out) hkp (fun hs_ => Or.elim hs_ (fun e_ => (fun e_ => (Kd.R_ne HO_834005.out BK833.out (by decide)) e_) e_) (fun e_ => (fun e_ => (Kd.R_ne HO_834006.out BK833.out (by decide)) e_) e_))); have n6_ := Aside0.mk (hb); clear HO_819005; clear HO_819006; clear HO_834005; clear HO_834006; clear BK818; clear BK833; clear HB; have HO_819005 := n0_; have HO_819006 := n1_; have HO_834005 := n2_; have HO_834006 := n3_; have BK818 := n4_; have BK833 := n5_; have HB := n6_; clear n0_ n1_ n2_ n3_ n4_ n5_ n6_; (try clear hb); (try clear hkp); (try clear hy0); (try clear hy1); have hcz34_0 : w33.cell? ⟨gb833, 0, none⟩ = some (.int .i64 t819) := (blk_cell BK833.out 0).trans rfl; have hcz34_1 : w33.cell? ⟨gb833, 1, none⟩ = some (.int .i64 t820) := (blk_cell BK833.out 1).trans rfl; have hcz34_2 : w33.cell? ⟨gb833, 2, none⟩ = some (.int .i64 t821) := (blk_cell BK833.out 2).trans rfl; have hcz34_3 : w33.cell? ⟨gb833, 3, none⟩ = some (.string t822) := (blk_cell BK833.out 3).trans rfl; have hcz34_4 : w33.cell? ⟨gb833, 4, none⟩ = some (.int .i64 t823) := (blk_cell BK833.out 4).trans rfl; have hcz34_5 : w33.cell? ⟨gb833, 5, none⟩ = some (.slice Ao15 t824.length co15) := (blk_cell BK833.out 5).trans rfl; have hcz34_6 : w33.cell? ⟨gb833, 6, none⟩ = some (.slice Ao16 t827.length co16) := (blk_cell BK833.out 6).trans rfl; have hcz34_7 : w33.cell? ⟨gb833, 7, none⟩ = some (.int .i64 t830) := (blk_cell BK833.out 7).trans rfl; have hcz34_8 : w33.cell? ⟨gb833, 8, none⟩ = some (.bool t831) := (blk_cell BK833.out 8).trans rfl; have hfz34_0 := blk_frozen BK833.out 0; have hfz34_1 := blk_frozen BK833.out 1; have hfz34_2 := blk_frozen BK833.out 2; have hfz34_3 := blk_frozen BK833.out 3; have hfz34_4 := blk_frozen BK833.out 4; have hfz34_5 := blk_frozen BK833.out 5; have hfz34_6 := blk_frozen BK833.out 6; have hfz34_7 := blk_frozen BK833.out 7; have hfz34_8 := blk_frozen BK833.out 8) | ((with_reducible refine gate_callee (f := 53) rfl ?_); refine goesL_ (some 39) rfl rfl Try.func53 (by kernel_rfl) rfl #[.agg #[.int .i64 t819, .int .i64 t820, .int .i64 t821, .string t822, .int .i64 t823, .slice Ao15 t836.length co15, .slice Ao16 t837.length co16, .int .i64 t830, .bool t831], .int .i64 1] rfl (by (try simp only [List.map_toArray, List.map_cons, List.map_nil]); first | done | (rw [show t836.length = t824.length from (Kd.R_reads' HO_834005.out).1.symm, show t837.length = t827.length from (Kd.R_reads' HO_834006.out).1.symm] <;> rfl) | rfl | (simp only [List.length_drop, List.length_take]; rfl)) ?_; (with_reducible refine (laws_heldSession.calls kj4 t819 t820 t821 t822 t823 _ _ t836 _ _ t837 t830 t831 1 t838 _ ?side1 ?side2 ?side3 ?side4 A29.out).mono ?_); (case side1 => repeat (first | exact (Kd.R_reads' HO_834005.out).2.2 | (with_reducible refine Kd.C_alloc ?_ _) | (with_reducible refine Kd.C_drewN ?_ _) | (with_reducible refine Kd.C_drew ?_))); (case side2 => rw [show t836.length = t824.length from (Kd.R_reads' HO_834005.out).1.symm]; exact (Kd.R_reads' HO_834005.out).2.1); (case side3 => repeat (first | exact (Kd.R_reads' HO_834006.out).2.2 | (with_reducible refine Kd.C_alloc ?_ _) | (with_reducible refine Kd.C_drewN ?_ _) | (with_reducible refine Kd.C_drew ?_))); (case side4 => rw [show t837.length = t827.length from (Kd.R_reads' HO_834006.out).1.symm]; exact (Kd.R_reads' HO_834006.out).2.1); rintro e w35 ⟨rfl, hb⟩; refine ⟨_, rfl, ?_⟩; have n0_ := Aside0.mk (Kd.R_below (by (with_reducible repeat (first | apply Kd.R_alloc | apply Kd.R_drewN | apply Kd.R_drew)); exact HO_819005.out) hb); have n1_ := Aside0.mk (Kd.R_below (by (with_reducible repeat (first | apply Kd.R_alloc | apply Kd.R_drewN | apply Kd.R_drew)); exact HO_819006.out) hb); have n2_ := Aside0.mk (Kd.R_below (by (with_reducible repeat (first | apply Kd.R_alloc | apply Kd.R_drewN | apply Kd.R_drew)); exact HO_834005.out) hb); have n3_ := Aside0.mk (Kd.R_below (by (with_reducible repeat (first | apply Kd.R_alloc | apply Kd.R_drewN | apply Kd.R_drew)); exact HO_834006.out) hb); have n4_ := Aside0.mk (blk_below (g := gb818) (o := .cells #[.int .i64 t804, .int .i64 t805, .int .i64 t806, .string t807, .int .i64 t808, .slice Ao9 t809.length co9, .slice Ao10 t812.length co10, .int .i64 t815, .bool t816] 70 (0, 0)) (by (with_reducible repeat (first | refine blk_drewN ?_ _ | refine blk_drew ?_ | refine blk_alloc ?_ _)); exact BK818.out) hb); have n5_ := Aside0.mk (blk_below (g := gb833) (o := .cells #[.int .i64 t819, .int .i64 t820, .int .i64 t821, .string t822, .int .i64 t823, .slice Ao15 t824.length co15, .slice Ao16 t827.length co16, .int .i64 t830, .bool t831] 70 (0, 0)) (by (with_reducible repeat (first | refine blk_drewN ?_ _ | refine blk_drew ?_ | refine blk_alloc ?_ _)); exact BK833.out) hb); have n6_ := Aside0.mk (below_step (by repeat (first | (with_reducible first | exact HB.out | apply below_alloc | apply pw_below_drewN | apply below_drew1 | refine below_set ?_ GE818.out | refine below_set ?_ GE833.out) | exact HB.out)) hb); clear HO_819005; clear HO_819006; clear HO_834005; clear HO_834006; clear BK818; clear BK833; clear HB; have HO_819005 := n0_; have HO_819006 := n1_; have HO_834005 := n2_; have HO_834006 := n3_; have BK818 := n4_; have BK833 := n5_; have HB := n6_; clear n0_ n1_ n2_ n3_ n4_ n5_ n6_; (try clear hb); (try clear hb2); (try clear hk); (try clear hi)))
     go_ret
     exact ⟨by first | rfl | (simp [errW_none, errW_some] <;> rfl) | (simp [*, errW_none, errW_some] <;> rfl), by repeat (first | (with_reducible first | exact HB.out | apply below_alloc | apply pw_below_drewN | apply below_drew1 | refine below_set ?_ GE818.out | refine below_set ?_ GE833.out) | exact HB.out)⟩
    ·rw [if_neg c30] at H
     have c30b0 : decide (t838 < 0) = false := decide_eq_false c30
     clear c30
     by_cases c36 : t838 = t835
     ·rw [if_pos c36] at H
      have c36b0 : (t838 == t835) = true := beq_iff_eq.mpr c36
      have c36b1 : (t838 != t835) = false := bne_eq_false_iff_eq.mpr c36
      clear c36
      replace H := Option.bind_eq_some_iff.mp H
      obtain ⟨⟨t839, t840, t841, t842, t843, t844, t847, t850, t851, t852⟩, A370, H⟩ := H
      replace H : ((laws_eqSession.f kj4 t839 t840 t841 t842 t843 t844 t847 t850 t851 t804 t805 t806 t807 t808 t809 t812 t815 t816).bind fun t854 => (if t854 = true then (laws_FnExactNewSession.j1 kj4 t835 (t852 != t817) t819 t820 t821 t822 t823 t836 t837 t830 t831) else (laws_FnExactNewSession.j1 kj4 t835 true t819 t820 t821 t822 t823 t836 t837 t830 t831))) = some r := H
      have A37 := Aside0.mk A370
      clear A370
      have HC38 := Aside0.mk H
      clear H
      have hnb39 := NB833_818.out
      have hnc39 := NB818_833.out
      have hcz40_0 : wc.cell? ⟨gb833, 0, none⟩ = some (.int .i64 t819) := (blk_cell BK833.out 0).trans rfl
      have hcz40_1 : wc.cell? ⟨gb833, 1, none⟩ = some (.int .i64 t820) := (blk_cell BK833.out 1).trans rfl
      have hcz40_2 : wc.cell? ⟨gb833, 2, none⟩ = some (.int .i64 t821) := (blk_cell BK833.out 2).trans rfl
      have hcz40_3 : wc.cell? ⟨gb833, 3, none⟩ = some (.string t822) := (blk_cell BK833.out 3).trans rfl
      have hcz40_4 : wc.cell? ⟨gb833, 4, none⟩ = some (.int .i64 t823) := (blk_cell BK833.out 4).trans rfl
      have hcz40_5 : wc.cell? ⟨gb833, 5, none⟩ = some (.slice Ao15 t824.length co15) := (blk_cell BK833.out 5).trans rfl
      have hcz40_6 : wc.cell? ⟨gb833, 6, none⟩ = some (.slice Ao16 t827.length co16) := (blk_cell BK833.out 6).trans rfl
      have hcz40_7 : wc.cell? ⟨gb833, 7, none⟩ = some (.int .i64 t830) := (blk_cell BK833.out 7).trans rfl
      have hcz40_8 : wc.cell? ⟨gb833, 8, none⟩ = some (.bool t831) := (blk_cell BK833.out 8).trans rfl
      have hfz40_0 := blk_frozen BK833.out 0
      have hfz40_1 := blk_frozen BK833.out 1
      have hfz40_2 := blk_frozen BK833.out 2
      have hfz40_3 := blk_frozen BK833.out 3
      have hfz40_4 := blk_frozen BK833.out 4
      have hfz40_5 := blk_frozen BK833.out 5
      have hfz40_6 := blk_frozen BK833.out 6
      have hfz40_7 := blk_frozen BK833.out 7
      have hfz40_8 := blk_frozen BK833.out 8
      go_upto_region 14 with (first | ((with_reducible refine gate_callee (f := 52) rfl ?_); refine goesL_ (some 36) rfl rfl Try.func52 (by kernel_rfl) rfl #[.agg #[.int .i64 t819, .int .i64 t820, .int .i64 t821, .string t822, .int .i64 t823, .slice Ao15 t824.length co15, .slice Ao16 t827.length co16, .int .i64 t830, .bool t831], .int .i64 1] rfl (by (try simp only [List.map_toArray, List.map_cons, List.map_nil]); first | done | rfl | (simp only [List.length_drop, List.length_take]; rfl)) ?_; (with_reducible refine (laws_markSession.calls kj4 t819 t820 t821 t822 t823 (fun k_ => some k_ = (.slice Ao15 t824.length co15 : Value).ownBlock) (.slice Ao15 t824.length co15) t824 (fun k_ => some k_ = (.slice Ao16 t827.length co16 : Value).ownBlock) (.slice Ao16 t827.length co16) t827 t830 t831 1 t835 t836 t837 w _ ?side1 ?side2 ?side3 ?side4 ?side5 A28.out).mono ?_); (case side1 => repeat (first | (with_reducible first | exact HB.out | apply below_alloc | apply pw_below_drewN | apply below_drew1 | refine below_set ?_ GE818.out | refine below_set ?_ GE833.out) | exact HB.out)); (case side2 => exact Kd.R_tight rfl HO_834005.out); (case side3 => exact fun k_ e_ => (HO_834005.out.1 k_ e_.symm).2.2); (case side4 => exact Kd.R_tight rfl HO_834006.out); (case side5 => exact fun k_ e_ => (HO_834006.out.1 k_ e_.symm).2.2); rintro e w41 ⟨rfl, hy0, hy1, hb, hkp⟩; refine ⟨_, rfl, ?_⟩; have n0_ := Aside0.mk (Kd.R_mono (ok' := fun k_ => some k_ ≠ (.slice Ao10 t812.length co10 : Value).ownBlock ∧ some k_ ≠ (.slice Ao15 t824.length co15 : Value).ownBlock ∧ some k_ ≠ (.slice Ao16 t827.length co16 : Value).ownBlock) (Kd.R_keptB (HO_819005.out) hkp (fun k_ hk_ hs_ => Or.elim hs_ (fun e_ => (hk_.2.1) e_) (fun e_ => (hk_.2.2) e_))) (fun k_ hk_ => ⟨hk_.1.1, hk_.1.2.1, hk_.1.2.2⟩)); have n1_ := Aside0.mk (Kd.R_mono (ok' := fun k_ => some k_ ≠ (.slice Ao9 t809.length co9 : Value).ownBlock ∧ some k_ ≠ (.slice Ao15 t824.length co15 : Value).ownBlock ∧ some k_ ≠ (.slice Ao16 t827.length co16 : Value).ownBlock) (Kd.R_keptB (HO_819006.out) hkp (fun k_ hk_ hs_ => Or.elim hs_ (fun e_ => (hk_.2.1) e_) (fun e_ => (hk_.2.2) e_))) (fun k_ hk_ => ⟨hk_.1.1, hk_.1.2.1, hk_.1.2.2⟩)); have n2_ := Aside0.mk (Kd.R_reok rfl hy0 (fun k_ e_ => HO_834005.out.1 k_ e_)); have n3_ := Aside0.mk (Kd.R_reok rfl hy1 (fun k_ e_ => HO_834006.out.1 k_ e_)); have n4_ := Aside0.mk (blk_kept (by (with_reducible repeat (first | refine blk_drewN ?_ _ | refine blk_drew ?_ | refine blk_alloc ?_ _)); exact BK818.out) hkp (fun hs_ => Or.elim hs_ (fun e_ => (fun e_ => (Kd.R_ne HO_834005.out BK818.out (by decide)) e_) e_) (fun e_ => (fun e_ => (Kd.R_ne HO_834006.out BK818.out (by decide)) e_) e_))); have n5_ := Aside0.mk (blk_kept (by (with_reducible repeat (first | refine blk_drewN ?_ _ | refine blk_drew ?_ | refine blk_alloc ?_ _)); exact BK833.out) hkp (fun hs_ => Or.elim hs_ (fun e_ => (fun e_ => (Kd.R_ne HO_834005.out BK833.out (by decide)) e_) e_) (fun e_ => (fun e_ => (Kd.R_ne HO_834006.out BK833.out (by decide)) e_) e_))); have n6_ := Aside0.mk (hb); clear HO_819005; clear HO_819006; clear HO_834005; clear HO_834006; clear BK818; clear BK833; clear HB; have HO_819005 := n0_; have HO_819006 := n1_; have HO_834005 := n2_; have HO_834006 := n3_; have BK818 := n4_; have BK833 := n5_; have HB := n6_; clear n0_ n1_ n2_ n3_ n4_ n5_ n6_; (try clear hb); (try clear hkp); (try clear hy0); (try clear hy1); have hcz42_0 : w41.cell? ⟨gb833, 0, none⟩ = some (.int .i64 t819) := (blk_cell BK833.out 0).trans rfl; have hcz42_1 : w41.cell? ⟨gb833, 1, none⟩ = some (.int .i64 t820) := (blk_cell BK833.out 1).trans rfl; have hcz42_2 : w41.cell? ⟨gb833, 2, none⟩ = some (.int .i64 t821) := (blk_cell BK833.out 2).trans rfl; have hcz42_3 : w41.cell? ⟨gb833, 3, none⟩ = some (.string t822) := (blk_cell BK833.out 3).trans rfl; have hcz42_4 : w41.cell? ⟨gb833, 4, none⟩ = some (.int .i64 t823) := (blk_cell BK833.out 4).trans rfl; have hcz42_5 : w41.cell? ⟨gb833, 5, none⟩ = some (.slice Ao15 t824.length co15) := (blk_cell BK833.out 5).trans rfl; have hcz42_6 : w41.cell? ⟨gb833, 6, none⟩ = some (.slice Ao16 t827.length co16) := (blk_cell BK833.out 6).trans rfl; have hcz42_7 : w41.cell? ⟨gb833, 7, none⟩ = some (.int .i64 t830) := (blk_cell BK833.out 7).trans rfl; have hcz42_8 : w41.cell? ⟨gb833, 8, none⟩ = some (.bool t831) := (blk_cell BK833.out 8).trans rfl; have hfz42_0 := blk_frozen BK833.out 0; have hfz42_1 := blk_frozen BK833.out 1; have hfz42_2 := blk_frozen BK833.out 2; have hfz42_3 := blk_frozen BK833.out 3; have hfz42_4 := blk_frozen BK833.out 4; have hfz42_5 := blk_frozen BK833.out 5; have hfz42_6 := blk_frozen BK833.out 6; have hfz42_7 := blk_frozen BK833.out 7; have hfz42_8 := blk_frozen BK833.out 8) | ((with_reducible refine gate_callee (f := 53) rfl ?_); refine goesL_ (some 39) rfl rfl Try.func53 (by kernel_rfl) rfl #[.agg #[.int .i64 t819, .int .i64 t820, .int .i64 t821, .string t822, .int .i64 t823, .slice Ao15 t836.length co15, .slice Ao16 t837.length co16, .int .i64 t830, .bool t831], .int .i64 1] rfl (by (try simp only [List.map_toArray, List.map_cons, List.map_nil]); first | done | (rw [show t836.length = t824.length from (Kd.R_reads' HO_834005.out).1.symm, show t837.length = t827.length from (Kd.R_reads' HO_834006.out).1.symm] <;> rfl) | rfl | (simp only [List.length_drop, List.length_take]; rfl)) ?_; (with_reducible refine (laws_heldSession.calls kj4 t819 t820 t821 t822 t823 _ _ t836 _ _ t837 t830 t831 1 t838 _ ?side1 ?side2 ?side3 ?side4 A29.out).mono ?_); (case side1 => repeat (first | exact (Kd.R_reads' HO_834005.out).2.2 | (with_reducible refine Kd.C_alloc ?_ _) | (with_reducible refine Kd.C_drewN ?_ _) | (with_reducible refine Kd.C_drew ?_))); (case side2 => rw [show t836.length = t824.length from (Kd.R_reads' HO_834005.out).1.symm]; exact (Kd.R_reads' HO_834005.out).2.1); (case side3 => repeat (first | exact (Kd.R_reads' HO_834006.out).2.2 | (with_reducible refine Kd.C_alloc ?_ _) | (with_reducible refine Kd.C_drewN ?_ _) | (with_reducible refine Kd.C_drew ?_))); (case side4 => rw [show t837.length = t827.length from (Kd.R_reads' HO_834006.out).1.symm]; exact (Kd.R_reads' HO_834006.out).2.1); rintro e w43 ⟨rfl, hb⟩; refine ⟨_, rfl, ?_⟩; have n0_ := Aside0.mk (Kd.R_below (by (with_reducible repeat (first | apply Kd.R_alloc | apply Kd.R_drewN | apply Kd.R_drew)); exact HO_819005.out) hb); have n1_ := Aside0.mk (Kd.R_below (by (with_reducible repeat (first | apply Kd.R_alloc | apply Kd.R_drewN | apply Kd.R_drew)); exact HO_819006.out) hb); have n2_ := Aside0.mk (Kd.R_below (by (with_reducible repeat (first | apply Kd.R_alloc | apply Kd.R_drewN | apply Kd.R_drew)); exact HO_834005.out) hb); have n3_ := Aside0.mk (Kd.R_below (by (with_reducible repeat (first | apply Kd.R_alloc | apply Kd.R_drewN | apply Kd.R_drew)); exact HO_834006.out) hb); have n4_ := Aside0.mk (blk_below (g := gb818) (o := .cells #[.int .i64 t804, .int .i64 t805, .int .i64 t806, .string t807, .int .i64 t808, .slice Ao9 t809.length co9, .slice Ao10 t812.length co10, .int .i64 t815, .bool t816] 70 (0, 0)) (by (with_reducible repeat (first | refine blk_drewN ?_ _ | refine blk_drew ?_ | refine blk_alloc ?_ _)); exact BK818.out) hb); have n5_ := Aside0.mk (blk_below (g := gb833) (o := .cells #[.int .i64 t819, .int .i64 t820, .int .i64 t821, .string t822, .int .i64 t823, .slice Ao15 t824.length co15, .slice Ao16 t827.length co16, .int .i64 t830, .bool t831] 70 (0, 0)) (by (with_reducible repeat (first | refine blk_drewN ?_ _ | refine blk_drew ?_ | refine blk_alloc ?_ _)); exact BK833.out) hb); have n6_ := Aside0.mk (below_step (by repeat (first | (with_reducible first | exact HB.out | apply below_alloc | apply pw_below_drewN | apply below_drew1 | refine below_set ?_ GE818.out | refine below_set ?_ GE833.out) | exact HB.out)) hb); clear HO_819005; clear HO_819006; clear HO_834005; clear HO_834006; clear BK818; clear BK833; clear HB; have HO_819005 := n0_; have HO_819006 := n1_; have HO_834005 := n2_; have HO_834006 := n3_; have BK818 := n4_; have BK833 := n5_; have HB := n6_; clear n0_ n1_ n2_ n3_ n4_ n5_ n6_; (try clear hb); (try clear hb2); (try clear hk); (try clear hi)) | ((with_reducible refine gate_callee (f := 50) rfl ?_); refine goesL_ (some 48) rfl rfl Try.func50 (by kernel_rfl) rfl #[.int .i64 a0, .int .i64 a1] rfl (by (try simp only [List.map_toArray, List.map_cons, List.map_nil]); first | done | rfl | (simp only [List.length_drop, List.length_take]; rfl)) ?_; (with_reducible refine (impl_NewSession.calls a0 a1 t839 t840 t841 t842 t843 t844 t847 t850 t851 t852 _ A37.out).mono ?_); rintro e w44 ⟨v845, v848, rfl, ho0, ho1, hb⟩; refine ⟨_, rfl, ?_⟩; have n0_ := Aside0.mk (Kd.R_mono (Kd.R_told (Kd.R_told (Kd.R_old (by (with_reducible repeat (first | apply Kd.R_alloc | apply Kd.R_drewN | apply Kd.R_drew)); exact HO_819005.out) hb) (Kd.R_base ho0)) (Kd.R_base ho1)) (fun _ h_ => h_.1)); have n1_ := Aside0.mk (Kd.R_mono (Kd.R_told (Kd.R_told (Kd.R_old (by (with_reducible repeat (first | apply Kd.R_alloc | apply Kd.R_drewN | apply Kd.R_drew)); exact HO_819006.out) hb) (Kd.R_base ho0)) (Kd.R_base ho1)) (fun _ h_ => h_.1)); have n2_ := Aside0.mk (Kd.R_mono (Kd.R_told (Kd.R_told (Kd.R_old (by (with_reducible repeat (first | apply Kd.R_alloc | apply Kd.R_drewN | apply Kd.R_drew)); exact HO_834005.out) hb) (Kd.R_base ho0)) (Kd.R_base ho1)) (fun _ h_ => h_.1)); have n3_ := Aside0.mk (Kd.R_mono (Kd.R_told (Kd.R_told (Kd.R_old (by (with_reducible repeat (first | apply Kd.R_alloc | apply Kd.R_drewN | apply Kd.R_drew)); exact HO_834006.out) hb) (Kd.R_base ho0)) (Kd.R_base ho1)) (fun _ h_ => h_.1)); have n4_ := Aside0.mk (Kd.R_lower (Kd.R_new' (Kd.R_new' (Kd.R_new' (Kd.R_new' ho0 (Kd.R_lt (by (with_reducible repeat (first | apply Kd.R_alloc | apply Kd.R_drewN | apply Kd.R_drew)); exact HO_819005.out))) (Kd.R_lt (by (with_reducible repeat (first | apply Kd.R_alloc | apply Kd.R_drewN | apply Kd.R_drew)); exact HO_819006.out))) (Kd.R_lt (by (with_reducible repeat (first | apply Kd.R_alloc | apply Kd.R_drewN | apply Kd.R_drew)); exact HO_834005.out))) (Kd.R_lt (by (with_reducible repeat (first | apply Kd.R_alloc | apply Kd.R_drewN | apply Kd.R_drew)); exact HO_834006.out))) (below_size (by repeat (first | (with_reducible first | exact HB.out | apply below_alloc | apply pw_below_drewN | apply below_drew1 | refine below_set ?_ GE818.out | refine below_set ?_ GE833.out) | exact HB.out)))); have n5_ := Aside0.mk (Kd.R_lower (Kd.R_new' (Kd.R_new' (Kd.R_new' (Kd.R_new' ho1 (Kd.R_lt (by (with_reducible repeat (first | apply Kd.R_alloc | apply Kd.R_drewN | apply Kd.R_drew)); exact HO_819005.out))) (Kd.R_lt (by (with_reducible repeat (first | apply Kd.R_alloc | apply Kd.R_drewN | apply Kd.R_drew)); exact HO_819006.out))) (Kd.R_lt (by (with_reducible repeat (first | apply Kd.R_alloc | apply Kd.R_drewN | apply Kd.R_drew)); exact HO_834005.out))) (Kd.R_lt (by (with_reducible repeat (first | apply Kd.R_alloc | apply Kd.R_drewN | apply Kd.R_drew)); exact HO_834006.out))) (below_size (by repeat (first | (with_reducible first | exact HB.out | apply below_alloc | apply pw_below_drewN | apply below_drew1 | refine below_set ?_ GE818.out | refine below_set ?_ GE833.out) | exact HB.out)))); have n6_ := Aside0.mk (blk_below (g := gb818) (o := .cells #[.int .i64 t804, .int .i64 t805, .int .i64 t806, .string t807, .int .i64 t808, .slice Ao9 t809.length co9, .slice Ao10 t812.length co10, .int .i64 t815, .bool t816] 70 (0, 0)) (by (with_reducible repeat (first | refine blk_drewN ?_ _ | refine blk_drew ?_ | refine blk_alloc ?_ _)); exact BK818.out) hb); have n7_ := Aside0.mk (blk_below (g := gb833) (o := .cells #[.int .i64 t819, .int .i64 t820, .int .i64 t821, .string t822, .int .i64 t823, .slice Ao15 t824.length co15, .slice Ao16 t827.length co16, .int .i64 t830, .bool t831] 70 (0, 0)) (by (with_reducible repeat (first | refine blk_drewN ?_ _ | refine blk_drew ?_ | refine blk_alloc ?_ _)); exact BK833.out) hb); have n8_ := Aside0.mk (below_step (by repeat (first | (with_reducible first | exact HB.out | apply below_alloc | apply pw_below_drewN | apply below_drew1 | refine below_set ?_ GE818.out | refine below_set ?_ GE833.out) | exact HB.out)) hb); clear HO_819005; clear HO_819006; clear HO_834005; clear HO_834006; clear BK818; clear BK833; clear HB; have HO_819005 := n0_; have HO_819006 := n1_; have HO_834005 := n2_; have HO_834006 := n3_; have HO846 := n4_; have HO849 := n5_; have BK818 := n6_; have BK833 := n7_; have HB := n8_; clear n0_ n1_ n2_ n3_ n4_ n5_ n6_ n7_ n8_; (try clear hb); (try clear hb2); (try clear hk); (try clear hi); (try clear ho0); (try clear ho1)) | ((with_reducible refine gate_dst (N := 11) rfl ?_); refine box_event ?hg (N := 11) ?hd (cs := #[.int .i64 0, .int .i64 0, .int .i64 0, .string (⟨#[]⟩ : ByteArray), .int .i64 0, .slice none 0 0, .slice none 0 0, .int .i64 0, .bool false]) (t := 70) ?hr ?_; (case hd => rfl); (case hg => rfl); (case hr => first | (go_simp; done) | (go_simp; rfl)); intro gb853 hg w45 hbox hb; have n0_ := Aside0.mk (Kd.R_below (by (with_reducible repeat (first | apply Kd.R_alloc | apply Kd.R_drewN | apply Kd.R_drew)); exact HO_819005.out) hb); have n1_ := Aside0.mk (Kd.R_below (by (with_reducible repeat (first | apply Kd.R_alloc | apply Kd.R_drewN | apply Kd.R_drew)); exact HO_819006.out) hb); have n2_ := Aside0.mk (Kd.R_below (by (with_reducible repeat (first | apply Kd.R_alloc | apply Kd.R_drewN | apply Kd.R_drew)); exact HO_834005.out) hb); have n3_ := Aside0.mk (Kd.R_below (by (with_reducible repeat (first | apply Kd.R_alloc | apply Kd.R_drewN | apply Kd.R_drew)); exact HO_834006.out) hb); have n4_ := Aside0.mk (Kd.R_below (by (with_reducible repeat (first | apply Kd.R_alloc | apply Kd.R_drewN | apply Kd.R_drew)); exact HO846.out) hb); have n5_ := Aside0.mk (Kd.R_below (by (with_reducible repeat (first | apply Kd.R_alloc | apply Kd.R_drewN | apply Kd.R_drew)); exact HO849.out) hb); have n6_ := Aside0.mk (blk_below (g := gb818) (o := .cells #[.int .i64 t804, .int .i64 t805, .int .i64 t806, .string t807, .int .i64 t808, .slice Ao9 t809.length co9, .slice Ao10 t812.length co10, .int .i64 t815, .bool t816] 70 (0, 0)) (by (with_reducible repeat (first | refine blk_drewN ?_ _ | refine blk_drew ?_ | refine blk_alloc ?_ _)); exact BK818.out) hb); have n7_ := Aside0.mk (blk_below (g := gb833) (o := .cells #[.int .i64 t819, .int .i64 t820, .int .i64 t821, .string t822, .int .i64 t823, .slice Ao15 t824.length co15, .slice Ao16 t827.length co16, .int .i64 t830, .bool t831] 70 (0, 0)) (by (with_reducible repeat (first | refine blk_drewN ?_ _ | refine blk_drew ?_ | refine blk_alloc ?_ _)); exact BK833.out) hb); have n8_ := Aside0.mk (below_step (by repeat (first | (with_reducible first | exact HB.out | apply below_alloc | apply pw_below_drewN | apply below_drew1 | refine below_set ?_ GE818.out | refine below_set ?_ GE833.out) | exact HB.out)) hb); have n9_ := Aside0.mk (hbox); have n10_ := Aside0.mk ((by rw [hg]; exact (below_size (by repeat (first | (with_reducible first | exact HB.out | apply below_alloc | apply pw_below_drewN | apply below_drew1 | refine below_set ?_ GE818.out | refine below_set ?_ GE833.out) | exact HB.out))) : w.heap.size ≤ gb853)); have n11_ := Aside0.mk ((by rw [hg]; exact (below_size (by repeat (first | (with_reducible first | exact HB.out | apply below_alloc | apply pw_below_drewN | apply below_drew1 | refine below_set ?_ GE818.out | refine below_set ?_ GE833.out) | exact HB.out))) : w.heap.size ≤ gb853)); have n12_ := Aside0.mk ((by rw [hg]; exact Nat.ne_of_lt (blk_lt (g := gb818) (o := .cells #[.int .i64 t804, .int .i64 t805, .int .i64 t806, .string t807, .int .i64 t808, .slice Ao9 t809.length co9, .slice Ao10 t812.length co10, .int .i64 t815, .bool t816] 70 (0, 0)) (by (with_reducible repeat (first | refine blk_drewN ?_ _ | refine blk_drew ?_ | refine blk_alloc ?_ _)); exact BK818.out)) : gb818 ≠ gb853)); have n13_ := Aside0.mk ((by rw [hg]; exact Nat.ne_of_gt (blk_lt (g := gb818) (o := .cells #[.int .i64 t804, .int .i64 t805, .int .i64 t806, .string t807, .int .i64 t808, .slice Ao9 t809.length co9, .slice Ao10 t812.length co10, .int .i64 t815, .bool t816] 70 (0, 0)) (by (with_reducible repeat (first | refine blk_drewN ?_ _ | refine blk_drew ?_ | refine blk_alloc ?_ _)); exact BK818.out)) : gb853 ≠ gb818)); have n14_ := Aside0.mk ((by rw [hg]; exact Nat.ne_of_lt (blk_lt (g := gb833) (o := .cells #[.int .i64 t819, .int .i64 t820, .int .i64 t821, .string t822, .int .i64 t823, .slice Ao15 t824.length co15, .slice Ao16 t827.length co16, .int .i64 t830, .bool t831] 70 (0, 0)) (by (with_reducible repeat (first | refine blk_drewN ?_ _ | refine blk_drew ?_ | refine blk_alloc ?_ _)); exact BK833.out)) : gb833 ≠ gb853)); have n15_ := Aside0.mk ((by rw [hg]; exact Nat.ne_of_gt (blk_lt (g := gb833) (o := .cells #[.int .i64 t819, .int .i64 t820, .int .i64 t821, .string t822, .int .i64 t823, .slice Ao15 t824.length co15, .slice Ao16 t827.length co16, .int .i64 t830, .bool t831] 70 (0, 0)) (by (with_reducible repeat (first | refine blk_drewN ?_ _ | refine blk_drew ?_ | refine blk_alloc ?_ _)); exact BK833.out)) : gb853 ≠ gb833)); clear HO_819005; clear HO_819006; clear HO_834005; clear HO_834006; clear HO846; clear HO849; clear BK818; clear BK833; clear HB; have HO_819005 := n0_; have HO_819006 := n1_; have HO_834005 := n2_; have HO_834006 := n3_; have HO846 := n4_; have HO849 := n5_; have BK818 := n6_; have BK833 := n7_; have HB := n8_; have BK853 := n9_; have GW853 := n10_; have GE853 := n11_; have NB818_853 := n12_; have NB853_818 := n13_; have NB833_853 := n14_; have NB853_833 := n15_; clear n0_ n1_ n2_ n3_ n4_ n5_ n6_ n7_ n8_ n9_ n10_ n11_ n12_ n13_ n14_ n15_; clear hb hbox hg; have hnb46 := NB853_818.out; have hnc46 := NB818_853.out; have hnb47 := NB853_833.out; have hnc47 := NB833_853.out; have hcz48_0 : w45.cell? ⟨gb853, 0, none⟩ = some (.int .i64 0) := (blk_cell BK853.out 0).trans rfl; have hcz48_1 : w45.cell? ⟨gb853, 1, none⟩ = some (.int .i64 0) := (blk_cell BK853.out 1).trans rfl; have hcz48_2 : w45.cell? ⟨gb853, 2, none⟩ = some (.int .i64 0) := (blk_cell BK853.out 2).trans rfl; have hcz48_3 : w45.cell? ⟨gb853, 3, none⟩ = some (.string (⟨#[]⟩ : ByteArray)) := (blk_cell BK853.out 3).trans rfl; have hcz48_4 : w45.cell? ⟨gb853, 4, none⟩ = some (.int .i64 0) := (blk_cell BK853.out 4).trans rfl; have hcz48_5 : w45.cell? ⟨gb853, 5, none⟩ = some (.slice none 0 0) := (blk_cell BK853.out 5).trans rfl; have hcz48_6 : w45.cell? ⟨gb853, 6, none⟩ = some (.slice none 0 0) := (blk_cell BK853.out 6).trans rfl; have hcz48_7 : w45.cell? ⟨gb853, 7, none⟩ = some (.int .i64 0) := (blk_cell BK853.out 7).trans rfl; have hcz48_8 : w45.cell? ⟨gb853, 8, none⟩ = some (.bool false) := (blk_cell BK853.out 8).trans rfl; have hfz48_0 := blk_frozen BK853.out 0; have hfz48_1 := blk_frozen BK853.out 1; have hfz48_2 := blk_frozen BK853.out 2; have hfz48_3 := blk_frozen BK853.out 3; have hfz48_4 := blk_frozen BK853.out 4; have hfz48_5 := blk_frozen BK853.out 5; have hfz48_6 := blk_frozen BK853.out 6; have hfz48_7 := blk_frozen BK853.out 7; have hfz48_8 := blk_frozen BK853.out 8; obtain ⟨Ao49, co49, eo49⟩ := Kd.R_slice HO846.out; subst eo49; obtain ⟨Ao50, co50, eo50⟩ := Kd.R_slice HO849.out; subst eo50))
      (try simp only [Act.put, List.setIfInBounds_toArray, List.set_cons_zero, List.set_cons_succ])
      go_cut [59] (fun v59 wc => ∃ (kq : Nat) (x59_37 : Bool), v59 = .bool x59_37 ∧ Aside0 (laws_FnExactNewSession.j1 kq t835 x59_37 t819 t820 t821 t822 t823 t836 t837 t830 t831 = some r) ∧ Aside0 (kq ≤ kj4) ∧ Aside0 (Kd.R (Kd.int .i64) 3 wc w.heap.size (fun k_ => some k_ ≠ ((.slice Ao10 t812.length co10) : Value).ownBlock ∧ some k_ ≠ ((.slice Ao15 t824.length co15) : Value).ownBlock ∧ some k_ ≠ ((.slice Ao16 t827.length co16) : Value).ownBlock ∧ some k_ ≠ ((.slice Ao49 t844.length co49) : Value).ownBlock ∧ some k_ ≠ ((.slice Ao50 t847.length co50) : Value).ownBlock) (.slice Ao9 t809.length co9) t809) ∧ Aside0 (Kd.R (Kd.int .i64) 3 wc w.heap.size (fun k_ => some k_ ≠ ((.slice Ao9 t809.length co9) : Value).ownBlock ∧ some k_ ≠ ((.slice Ao15 t824.length co15) : Value).ownBlock ∧ some k_ ≠ ((.slice Ao16 t827.length co16) : Value).ownBlock ∧ some k_ ≠ ((.slice Ao49 t844.length co49) : Value).ownBlock ∧ some k_ ≠ ((.slice Ao50 t847.length co50) : Value).ownBlock) (.slice Ao10 t812.length co10) t812) ∧ Aside0 (Kd.R (Kd.int .i64) 3 wc w.heap.size (fun k_ => some k_ ≠ ((.slice Ao9 t809.length co9) : Value).ownBlock ∧ some k_ ≠ ((.slice Ao10 t812.length co10) : Value).ownBlock ∧ some k_ ≠ ((.slice Ao16 t827.length co16) : Value).ownBlock ∧ some k_ ≠ ((.slice Ao49 t844.length co49) : Value).ownBlock ∧ some k_ ≠ ((.slice Ao50 t847.length co50) : Value).ownBlock) (.slice Ao15 t824.length co15) t836) ∧ Aside0 (Kd.R (Kd.int .i64) 3 wc w.heap.size (fun k_ => some k_ ≠ ((.slice Ao9 t809.length co9) : Value).ownBlock ∧ some k_ ≠ ((.slice Ao10 t812.length co10) : Value).ownBlock ∧ some k_ ≠ ((.slice Ao15 t824.length co15) : Value).ownBlock ∧ some k_ ≠ ((.slice Ao49 t844.length co49) : Value).ownBlock ∧ some k_ ≠ ((.slice Ao50 t847.length co50) : Value).ownBlock) (.slice Ao16 t827.length co16) t837) ∧ Aside0 (Kd.R (Kd.int .i64) 3 wc w.heap.size (fun k_ => some k_ ≠ ((.slice Ao9 t809.length co9) : Value).ownBlock ∧ some k_ ≠ ((.slice Ao10 t812.length co10) : Value).ownBlock ∧ some k_ ≠ ((.slice Ao15 t824.length co15) : Value).ownBlock ∧ some k_ ≠ ((.slice Ao16 t827.length co16) : Value).ownBlock ∧ some k_ ≠ ((.slice Ao50 t847.length co50) : Value).ownBlock) (.slice Ao49 t844.length co49) t844) ∧ Aside0 (Kd.R (Kd.int .i64) 3 wc w.heap.size (fun k_ => some k_ ≠ ((.slice Ao9 t809.length co9) : Value).ownBlock ∧ some k_ ≠ ((.slice Ao10 t812.length co10) : Value).ownBlock ∧ some k_ ≠ ((.slice Ao15 t824.length co15) : Value).ownBlock ∧ some k_ ≠ ((.slice Ao16 t827.length co16) : Value).ownBlock ∧ some k_ ≠ ((.slice Ao49 t844.length co49) : Value).ownBlock) (.slice Ao50 t847.length co50) t847) ∧ Aside0 (wc.heap[gb818]? = some (.cells #[.int .i64 t804, .int .i64 t805, .int .i64 t806, .string t807, .int .i64 t808, (.slice Ao9 t809.length co9), (.slice Ao10 t812.length co10), .int .i64 t815, .bool t816] 70 (0, 0))) ∧ Aside0 (wc.heap[gb833]? = some (.cells #[.int .i64 t819, .int .i64 t820, .int .i64 t821, .string t822, .int .i64 t823, (.slice Ao15 t824.length co15), (.slice Ao16 t827.length co16), .int .i64 t830, .bool t831] 70 (0, 0))) ∧ Aside0 (wc.heap[gb853]? = some (.cells #[.int .i64 t839, .int .i64 t840, .int .i64 t841, .string t842, .int .i64 t843, (.slice Ao49 t844.length co49), (.slice Ao50 t847.length co50), .int .i64 t850, .bool t851] 70 (0, 0))) ∧ Aside0 (Below w.heap.size w wc))
      case first =>
       have H := HC38.out
       clear HC38
       replace H := Option.bind_eq_some_iff.mp H
       obtain ⟨t854, A510, H⟩ := H
       replace H : (if t854 = true then (laws_FnExactNewSession.j1 kj4 t835 (t852 != t817) t819 t820 t821 t822 t823 t836 t837 t830 t831) else (laws_FnExactNewSession.j1 kj4 t835 true t819 t820 t821 t822 t823 t836 t837 t830 t831)) = some r := H
       have A51 := Aside0.mk A510
       clear A510
       by_cases c52 : t854 = true
       ·subst c52
        have H1 : (laws_FnExactNewSession.j1 kj4 t835 (t852 != t817) t819 t820 t821 t822 t823 t836 t837 t830 t831) = some r := by rw [if_pos rfl] at H; exact H
        clear H
        have H := H1
        clear H1
        have H' := Aside0.mk H
        clear H
        have hnb53 := NB853_818.out
        have hnc53 := NB818_853.out
        have hnb54 := NB853_833.out
        have hnc54 := NB833_853.out
        have hcz55_0 : w45.cell? ⟨gb853, 0, none⟩ = some (.int .i64 0) := (blk_cell BK853.out 0).trans rfl
        have hcz55_1 : w45.cell? ⟨gb853, 1, none⟩ = some (.int .i64 0) := (blk_cell BK853.out 1).trans rfl
        have hcz55_2 : w45.cell? ⟨gb853, 2, none⟩ = some (.int .i64 0) := (blk_cell BK853.out 2).trans rfl
        have hcz55_3 : w45.cell? ⟨gb853, 3, none⟩ = some (.string (⟨#[]⟩ : ByteArray)) := (blk_cell BK853.out 3).trans rfl
        have hcz55_4 : w45.cell? ⟨gb853, 4, none⟩ = some (.int .i64 0) := (blk_cell BK853.out 4).trans rfl
        have hcz55_5 : w45.cell? ⟨gb853, 5, none⟩ = some (.slice none 0 0) := (blk_cell BK853.out 5).trans rfl
        have hcz55_6 : w45.cell? ⟨gb853, 6, none⟩ = some (.slice none 0 0) := (blk_cell BK853.out 6).trans rfl
        have hcz55_7 : w45.cell? ⟨gb853, 7, none⟩ = some (.int .i64 0) := (blk_cell BK853.out 7).trans rfl
        have hcz55_8 : w45.cell? ⟨gb853, 8, none⟩ = some (.bool false) := (blk_cell BK853.out 8).trans rfl
        have hfz55_0 := blk_frozen BK853.out 0
        have hfz55_1 := blk_frozen BK853.out 1
        have hfz55_2 := blk_frozen BK853.out 2
        have hfz55_3 := blk_frozen BK853.out 3
        have hfz55_4 := blk_frozen BK853.out 4
        have hfz55_5 := blk_frozen BK853.out 5
        have hfz55_6 := blk_frozen BK853.out 6
        have hfz55_7 := blk_frozen BK853.out 7
        have hfz55_8 := blk_frozen BK853.out 8
        have hnb56 := NB818_833.out
        have hnc56 := NB833_818.out
        have hcz57_0 : w45.cell? ⟨gb818, 0, none⟩ = some (.int .i64 t804) := (blk_cell BK818.out 0).trans rfl
        have hcz57_1 : w45.cell? ⟨gb818, 1, none⟩ = some (.int .i64 t805) := (blk_cell BK818.out 1).trans rfl
        have hcz57_2 : w45.cell? ⟨gb818, 2, none⟩ = some (.int .i64 t806) := (blk_cell BK818.out 2).trans rfl
        have hcz57_3 : w45.cell? ⟨gb818, 3, none⟩ = some (.string t807) := (blk_cell BK818.out 3).trans rfl
        have hcz57_4 : w45.cell? ⟨gb818, 4, none⟩ = some (.int .i64 t808) := (blk_cell BK818.out 4).trans rfl
        have hcz57_5 : w45.cell? ⟨gb818, 5, none⟩ = some (.slice Ao9 t809.length co9) := (blk_cell BK818.out 5).trans rfl
        have hcz57_6 : w45.cell? ⟨gb818, 6, none⟩ = some (.slice Ao10 t812.length co10) := (blk_cell BK818.out 6).trans rfl
        have hcz57_7 : w45.cell? ⟨gb818, 7, none⟩ = some (.int .i64 t815) := (blk_cell BK818.out 7).trans rfl
        have hcz57_8 : w45.cell? ⟨gb818, 8, none⟩ = some (.bool t816) := (blk_cell BK818.out 8).trans rfl
        have hfz57_0 := blk_frozen BK818.out 0
        have hfz57_1 := blk_frozen BK818.out 1
        have hfz57_2 := blk_frozen BK818.out 2
        have hfz57_3 := blk_frozen BK818.out 3
        have hfz57_4 := blk_frozen BK818.out 4
        have hfz57_5 := blk_frozen BK818.out 5
        have hfz57_6 := blk_frozen BK818.out 6
        have hfz57_7 := blk_frozen BK818.out 7
        have hfz57_8 := blk_frozen BK818.out 8
        go_wp2_with (first | ((with_reducible refine gate_callee (f := 51) rfl ?_); refine goesL_ (some 53) rfl rfl Try.func51 (by kernel_rfl) rfl #[.agg #[.int .i64 t839, .int .i64 t840, .int .i64 t841, .string t842, .int .i64 t843, .slice Ao49 t844.length co49, .slice Ao50 t847.length co50, .int .i64 t850, .bool t851], .agg #[.int .i64 t804, .int .i64 t805, .int .i64 t806, .string t807, .int .i64 t808, .slice Ao9 t809.length co9, .slice Ao10 t812.length co10, .int .i64 t815, .bool t816]] rfl (by (try simp only [List.map_toArray, List.map_cons, List.map_nil]); first | done | rfl | (simp only [List.length_drop, List.length_take]; rfl)) ?_; (with_reducible refine (laws_eqSession.calls kj4 t839 t840 t841 t842 t843 _ _ t844 _ _ t847 t850 t851 t804 t805 t806 t807 t808 _ _ t809 _ _ t812 t815 t816 true _ ?side1 ?side2 ?side3 ?side4 ?side5 ?side6 ?side7 ?side8 A51.out).mono ?_); (case side1 => refine (Kd.R_reads' (e := 3) (base := w.heap.size) (ok := fun k_ => ((((some k_ ≠ (.slice Ao50 t847.length co50 : Value).ownBlock ∧ some k_ ≠ (.slice Ao9 t809.length co9 : Value).ownBlock) ∧ some k_ ≠ (.slice Ao10 t812.length co10 : Value).ownBlock) ∧ some k_ ≠ (.slice Ao15 t824.length co15 : Value).ownBlock) ∧ some k_ ≠ (.slice Ao16 t827.length co16 : Value).ownBlock)) (n := t844.length) (c := co49) ?_).2.2; exact (by (with_reducible repeat (first | apply Kd.R_alloc | apply Kd.R_drewN | apply Kd.R_drew)); exact (Kd.R_mono (Kd.R_far (p := ⟨gb853, 8, none⟩) (Kd.R_far (p := ⟨gb853, 7, none⟩) (Kd.R_far (p := ⟨gb853, 6, none⟩) (Kd.R_far (p := ⟨gb853, 5, none⟩) (Kd.R_far (p := ⟨gb853, 4, none⟩) (Kd.R_far (p := ⟨gb853, 3, none⟩) (Kd.R_far (p := ⟨gb853, 2, none⟩) (Kd.R_far (p := ⟨gb853, 1, none⟩) (Kd.R_far (p := ⟨gb853, 0, none⟩) (Kd.R_types HO846.out BK853.out (by decide)) (fun _ hk => hk.2) (.int .i64 t839)) (fun _ hk => hk.2) (.int .i64 t840)) (fun _ hk => hk.2) (.int .i64 t841)) (fun _ hk => hk.2) (.string t842)) (fun _ hk => hk.2) (.int .i64 t843)) (fun _ hk => hk.2) (.slice Ao49 t844.length co49)) (fun _ hk => hk.2) (.slice Ao50 t847.length co50)) (fun _ hk => hk.2) (.int .i64 t850)) (fun _ hk => hk.2) (.bool t851)) (fun _ h_ => h_.1)))); (case side2 => exact (Kd.R_reads' HO846.out).2.1); (case side3 => refine (Kd.R_reads' (e := 3) (base := w.heap.size) (ok := fun k_ => ((((some k_ ≠ (.slice Ao49 t844.length co49 : Value).ownBlock ∧ some k_ ≠ (.slice Ao9 t809.length co9 : Value).ownBlock) ∧ some k_ ≠ (.slice Ao10 t812.length co10 : Value).ownBlock) ∧ some k_ ≠ (.slice Ao15 t824.length co15 : Value).ownBlock) ∧ some k_ ≠ (.slice Ao16 t827.length co16 : Value).ownBlock)) (n := t847.length) (c := co50) ?_).2.2; exact (by (with_reducible repeat (first | apply Kd.R_alloc | apply Kd.R_drewN | apply Kd.R_drew)); exact (Kd.R_mono (Kd.R_far (p := ⟨gb853, 8, none⟩) (Kd.R_far (p := ⟨gb853, 7, none⟩) (Kd.R_far (p := ⟨gb853, 6, none⟩) (Kd.R_far (p := ⟨gb853, 5, none⟩) (Kd.R_far (p := ⟨gb853, 4, none⟩) (Kd.R_far (p := ⟨gb853, 3, none⟩) (Kd.R_far (p := ⟨gb853, 2, none⟩) (Kd.R_far (p := ⟨gb853, 1, none⟩) (Kd.R_far (p := ⟨gb853, 0, none⟩) (Kd.R_types HO849.out BK853.out (by decide)) (fun _ hk => hk.2) (.int .i64 t839)) (fun _ hk => hk.2) (.int .i64 t840)) (fun _ hk => hk.2) (.int .i64 t841)) (fun _ hk => hk.2) (.string t842)) (fun _ hk => hk.2) (.int .i64 t843)) (fun _ hk => hk.2) (.slice Ao49 t844.length co49)) (fun _ hk => hk.2) (.slice Ao50 t847.length co50)) (fun _ hk => hk.2) (.int .i64 t850)) (fun _ hk => hk.2) (.bool t851)) (fun _ h_ => h_.1)))); (case side4 => exact (Kd.R_reads' HO849.out).2.1); (case side5 => refine (Kd.R_reads' (e := 3) (base := w.heap.size) (ok := fun k_ => (((some k_ ≠ (.slice Ao10 t812.length co10 : Value).ownBlock ∧ (some k_ ≠ (.slice Ao15 t824.length co15 : Value).ownBlock ∧ some k_ ≠ (.slice Ao16 t827.length co16 : Value).ownBlock)) ∧ some k_ ≠ (.slice Ao49 t844.length co49 : Value).ownBlock) ∧ some k_ ≠ (.slice Ao50 t847.length co50 : Value).ownBlock)) (n := t809.length) (c := co9) ?_).2.2; exact (by (with_reducible repeat (first | apply Kd.R_alloc | apply Kd.R_drewN | apply Kd.R_drew)); exact (Kd.R_mono (Kd.R_far (p := ⟨gb853, 8, none⟩) (Kd.R_far (p := ⟨gb853, 7, none⟩) (Kd.R_far (p := ⟨gb853, 6, none⟩) (Kd.R_far (p := ⟨gb853, 5, none⟩) (Kd.R_far (p := ⟨gb853, 4, none⟩) (Kd.R_far (p := ⟨gb853, 3, none⟩) (Kd.R_far (p := ⟨gb853, 2, none⟩) (Kd.R_far (p := ⟨gb853, 1, none⟩) (Kd.R_far (p := ⟨gb853, 0, none⟩) (Kd.R_types HO_819005.out BK853.out (by decide)) (fun _ hk => hk.2) (.int .i64 t839)) (fun _ hk => hk.2) (.int .i64 t840)) (fun _ hk => hk.2) (.int .i64 t841)) (fun _ hk => hk.2) (.string t842)) (fun _ hk => hk.2) (.int .i64 t843)) (fun _ hk => hk.2) (.slice Ao49 t844.length co49)) (fun _ hk => hk.2) (.slice Ao50 t847.length co50)) (fun _ hk => hk.2) (.int .i64 t850)) (fun _ hk => hk.2) (.bool t851)) (fun _ h_ => h_.1)))); (case side6 => exact (Kd.R_reads' HO_819005.out).2.1); (case side7 => refine (Kd.R_reads' (e := 3) (base := w.heap.size) (ok := fun k_ => (((some k_ ≠ (.slice Ao9 t809.length co9 : Value).ownBlock ∧ (some k_ ≠ (.slice Ao15 t824.length co15 : Value).ownBlock ∧ some k_ ≠ (.slice Ao16 t827.length co16 : Value).ownBlock)) ∧ some k_ ≠ (.slice Ao49 t844.length co49 : Value).ownBlock) ∧ some k_ ≠ (.slice Ao50 t847.length co50 : Value).ownBlock)) (n := t812.length) (c := co10) ?_).2.2; exact (by (with_reducible repeat (first | apply Kd.R_alloc | apply Kd.R_drewN | apply Kd.R_drew)); exact (Kd.R_mono (Kd.R_far (p := ⟨gb853, 8, none⟩) (Kd.R_far (p := ⟨gb853, 7, none⟩) (Kd.R_far (p := ⟨gb853, 6, none⟩) (Kd.R_far (p := ⟨gb853, 5, none⟩) (Kd.R_far (p := ⟨gb853, 4, none⟩) (Kd.R_far (p := ⟨gb853, 3, none⟩) (Kd.R_far (p := ⟨gb853, 2, none⟩) (Kd.R_far (p := ⟨gb853, 1, none⟩) (Kd.R_far (p := ⟨gb853, 0, none⟩) (Kd.R_types HO_819006.out BK853.out (by decide)) (fun _ hk => hk.2) (.int .i64 t839)) (fun _ hk => hk.2) (.int .i64 t840)) (fun _ hk => hk.2) (.int .i64 t841)) (fun _ hk => hk.2) (.string t842)) (fun _ hk => hk.2) (.int .i64 t843)) (fun _ hk => hk.2) (.slice Ao49 t844.length co49)) (fun _ hk => hk.2) (.slice Ao50 t847.length co50)) (fun _ hk => hk.2) (.int .i64 t850)) (fun _ hk => hk.2) (.bool t851)) (fun _ h_ => h_.1)))); (case side8 => exact (Kd.R_reads' HO_819006.out).2.1); rintro e w58 ⟨rfl, hb⟩; refine ⟨_, rfl, ?_⟩; have n0_ := Aside0.mk (Kd.R_below (by (with_reducible repeat (first | apply Kd.R_alloc | apply Kd.R_drewN | apply Kd.R_drew)); exact (Kd.R_mono (Kd.R_far (p := ⟨gb853, 8, none⟩) (Kd.R_far (p := ⟨gb853, 7, none⟩) (Kd.R_far (p := ⟨gb853, 6, none⟩) (Kd.R_far (p := ⟨gb853, 5, none⟩) (Kd.R_far (p := ⟨gb853, 4, none⟩) (Kd.R_far (p := ⟨gb853, 3, none⟩) (Kd.R_far (p := ⟨gb853, 2, none⟩) (Kd.R_far (p := ⟨gb853, 1, none⟩) (Kd.R_far (p := ⟨gb853, 0, none⟩) (Kd.R_types HO_819005.out BK853.out (by decide)) (fun _ hk => hk.2) (.int .i64 t839)) (fun _ hk => hk.2) (.int .i64 t840)) (fun _ hk => hk.2) (.int .i64 t841)) (fun _ hk => hk.2) (.string t842)) (fun _ hk => hk.2) (.int .i64 t843)) (fun _ hk => hk.2) (.slice Ao49 t844.length co49)) (fun _ hk => hk.2) (.slice Ao50 t847.length co50)) (fun _ hk => hk.2) (.int .i64 t850)) (fun _ hk => hk.2) (.bool t851)) (fun _ h_ => h_.1))) hb); have n1_ := Aside0.mk (Kd.R_below (by (with_reducible repeat (first | apply Kd.R_alloc | apply Kd.R_drewN | apply Kd.R_drew)); exact (Kd.R_mono (Kd.R_far (p := ⟨gb853, 8, none⟩) (Kd.R_far (p := ⟨gb853, 7, none⟩) (Kd.R_far (p := ⟨gb853, 6, none⟩) (Kd.R_far (p := ⟨gb853, 5, none⟩) (Kd.R_far (p := ⟨gb853, 4, none⟩) (Kd.R_far (p := ⟨gb853, 3, none⟩) (Kd.R_far (p := ⟨gb853, 2, none⟩) (Kd.R_far (p := ⟨gb853, 1, none⟩) (Kd.R_far (p := ⟨gb853, 0, none⟩) (Kd.R_types HO_819006.out BK853.out (by decide)) (fun _ hk => hk.2) (.int .i64 t839)) (fun _ hk => hk.2) (.int .i64 t840)) (fun _ hk => hk.2) (.int .i64 t841)) (fun _ hk => hk.2) (.string t842)) (fun _ hk => hk.2) (.int .i64 t843)) (fun _ hk => hk.2) (.slice Ao49 t844.length co49)) (fun _ hk => hk.2) (.slice Ao50 t847.length co50)) (fun _ hk => hk.2) (.int .i64 t850)) (fun _ hk => hk.2) (.bool t851)) (fun _ h_ => h_.1))) hb); have n2_ := Aside0.mk (Kd.R_below (by (with_reducible repeat (first | apply Kd.R_alloc | apply Kd.R_drewN | apply Kd.R_drew)); exact (Kd.R_mono (Kd.R_far (p := ⟨gb853, 8, none⟩) (Kd.R_far (p := ⟨gb853, 7, none⟩) (Kd.R_far (p := ⟨gb853, 6, none⟩) (Kd.R_far (p := ⟨gb853, 5, none⟩) (Kd.R_far (p := ⟨gb853, 4, none⟩) (Kd.R_far (p := ⟨gb853, 3, none⟩) (Kd.R_far (p := ⟨gb853, 2, none⟩) (Kd.R_far (p := ⟨gb853, 1, none⟩) (Kd.R_far (p := ⟨gb853, 0, none⟩) (Kd.R_types HO_834005.out BK853.out (by decide)) (fun _ hk => hk.2) (.int .i64 t839)) (fun _ hk => hk.2) (.int .i64 t840)) (fun _ hk => hk.2) (.int .i64 t841)) (fun _ hk => hk.2) (.string t842)) (fun _ hk => hk.2) (.int .i64 t843)) (fun _ hk => hk.2) (.slice Ao49 t844.length co49)) (fun _ hk => hk.2) (.slice Ao50 t847.length co50)) (fun _ hk => hk.2) (.int .i64 t850)) (fun _ hk => hk.2) (.bool t851)) (fun _ h_ => h_.1))) hb); have n3_ := Aside0.mk (Kd.R_below (by (with_reducible repeat (first | apply Kd.R_alloc | apply Kd.R_drewN | apply Kd.R_drew)); exact (Kd.R_mono (Kd.R_far (p := ⟨gb853, 8, none⟩) (Kd.R_far (p := ⟨gb853, 7, none⟩) (Kd.R_far (p := ⟨gb853, 6, none⟩) (Kd.R_far (p := ⟨gb853, 5, none⟩) (Kd.R_far (p := ⟨gb853, 4, none⟩) (Kd.R_far (p := ⟨gb853, 3, none⟩) (Kd.R_far (p := ⟨gb853, 2, none⟩) (Kd.R_far (p := ⟨gb853, 1, none⟩) (Kd.R_far (p := ⟨gb853, 0, none⟩) (Kd.R_types HO_834006.out BK853.out (by decide)) (fun _ hk => hk.2) (.int .i64 t839)) (fun _ hk => hk.2) (.int .i64 t840)) (fun _ hk => hk.2) (.int .i64 t841)) (fun _ hk => hk.2) (.string t842)) (fun _ hk => hk.2) (.int .i64 t843)) (fun _ hk => hk.2) (.slice Ao49 t844.length co49)) (fun _ hk => hk.2) (.slice Ao50 t847.length co50)) (fun _ hk => hk.2) (.int .i64 t850)) (fun _ hk => hk.2) (.bool t851)) (fun _ h_ => h_.1))) hb); have n4_ := Aside0.mk (Kd.R_below (by (with_reducible repeat (first | apply Kd.R_alloc | apply Kd.R_drewN | apply Kd.R_drew)); exact (Kd.R_mono (Kd.R_far (p := ⟨gb853, 8, none⟩) (Kd.R_far (p := ⟨gb853, 7, none⟩) (Kd.R_far (p := ⟨gb853, 6, none⟩) (Kd.R_far (p := ⟨gb853, 5, none⟩) (Kd.R_far (p := ⟨gb853, 4, none⟩) (Kd.R_far (p := ⟨gb853, 3, none⟩) (Kd.R_far (p := ⟨gb853, 2, none⟩) (Kd.R_far (p := ⟨gb853, 1, none⟩) (Kd.R_far (p := ⟨gb853, 0, none⟩) (Kd.R_types HO846.out BK853.out (by decide)) (fun _ hk => hk.2) (.int .i64 t839)) (fun _ hk => hk.2) (.int .i64 t840)) (fun _ hk => hk.2) (.int .i64 t841)) (fun _ hk => hk.2) (.string t842)) (fun _ hk => hk.2) (.int .i64 t843)) (fun _ hk => hk.2) (.slice Ao49 t844.length co49)) (fun _ hk => hk.2) (.slice Ao50 t847.length co50)) (fun _ hk => hk.2) (.int .i64 t850)) (fun _ hk => hk.2) (.bool t851)) (fun _ h_ => h_.1))) hb); have n5_ := Aside0.mk (Kd.R_below (by (with_reducible repeat (first | apply Kd.R_alloc | apply Kd.R_drewN | apply Kd.R_drew)); exact (Kd.R_mono (Kd.R_far (p := ⟨gb853, 8, none⟩) (Kd.R_far (p := ⟨gb853, 7, none⟩) (Kd.R_far (p := ⟨gb853, 6, none⟩) (Kd.R_far (p := ⟨gb853, 5, none⟩) (Kd.R_far (p := ⟨gb853, 4, none⟩) (Kd.R_far (p := ⟨gb853, 3, none⟩) (Kd.R_far (p := ⟨gb853, 2, none⟩) (Kd.R_far (p := ⟨gb853, 1, none⟩) (Kd.R_far (p := ⟨gb853, 0, none⟩) (Kd.R_types HO849.out BK853.out (by decide)) (fun _ hk => hk.2) (.int .i64 t839)) (fun _ hk => hk.2) (.int .i64 t840)) (fun _ hk => hk.2) (.int .i64 t841)) (fun _ hk => hk.2) (.string t842)) (fun _ hk => hk.2) (.int .i64 t843)) (fun _ hk => hk.2) (.slice Ao49 t844.length co49)) (fun _ hk => hk.2) (.slice Ao50 t847.length co50)) (fun _ hk => hk.2) (.int .i64 t850)) (fun _ hk => hk.2) (.bool t851)) (fun _ h_ => h_.1))) hb); have n6_ := Aside0.mk (blk_below (g := gb818) (o := .cells #[.int .i64 t804, .int .i64 t805, .int .i64 t806, .string t807, .int .i64 t808, .slice Ao9 t809.length co9, .slice Ao10 t812.length co10, .int .i64 t815, .bool t816] 70 (0, 0)) (by (with_reducible repeat (first | refine blk_drewN ?_ _ | refine blk_drew ?_ | refine blk_alloc ?_ _)); refine blk_far ?_ NB818_853.out _; (with_reducible repeat (first | refine blk_drewN ?_ _ | refine blk_drew ?_ | refine blk_alloc ?_ _)); refine blk_far ?_ NB818_853.out _; (with_reducible repeat (first | refine blk_drewN ?_ _ | refine blk_drew ?_ | refine blk_alloc ?_ _)); refine blk_far ?_ NB818_853.out _; (with_reducible repeat (first | refine blk_drewN ?_ _ | refine blk_drew ?_ | refine blk_alloc ?_ _)); refine blk_far ?_ NB818_853.out _; (with_reducible repeat (first | refine blk_drewN ?_ _ | refine blk_drew ?_ | refine blk_alloc ?_ _)); refine blk_far ?_ NB818_853.out _; (with_reducible repeat (first | refine blk_drewN ?_ _ | refine blk_drew ?_ | refine blk_alloc ?_ _)); refine blk_far ?_ NB818_853.out _; (with_reducible repeat (first | refine blk_drewN ?_ _ | refine blk_drew ?_ | refine blk_alloc ?_ _)); refine blk_far ?_ NB818_853.out _; (with_reducible repeat (first | refine blk_drewN ?_ _ | refine blk_drew ?_ | refine blk_alloc ?_ _)); refine blk_far ?_ NB818_853.out _; (with_reducible repeat (first | refine blk_drewN ?_ _ | refine blk_drew ?_ | refine blk_alloc ?_ _)); refine blk_far ?_ NB818_853.out _; (with_reducible repeat (first | refine blk_drewN ?_ _ | refine blk_drew ?_ | refine blk_alloc ?_ _)); exact BK818.out) hb); have n7_ := Aside0.mk (blk_below (g := gb833) (o := .cells #[.int .i64 t819, .int .i64 t820, .int .i64 t821, .string t822, .int .i64 t823, .slice Ao15 t824.length co15, .slice Ao16 t827.length co16, .int .i64 t830, .bool t831] 70 (0, 0)) (by (with_reducible repeat (first | refine blk_drewN ?_ _ | refine blk_drew ?_ | refine blk_alloc ?_ _)); refine blk_far ?_ NB833_853.out _; (with_reducible repeat (first | refine blk_drewN ?_ _ | refine blk_drew ?_ | refine blk_alloc ?_ _)); refine blk_far ?_ NB833_853.out _; (with_reducible repeat (first | refine blk_drewN ?_ _ | refine blk_drew ?_ | refine blk_alloc ?_ _)); refine blk_far ?_ NB833_853.out _; (with_reducible repeat (first | refine blk_drewN ?_ _ | refine blk_drew ?_ | refine blk_alloc ?_ _)); refine blk_far ?_ NB833_853.out _; (with_reducible repeat (first | refine blk_drewN ?_ _ | refine blk_drew ?_ | refine blk_alloc ?_ _)); refine blk_far ?_ NB833_853.out _; (with_reducible repeat (first | refine blk_drewN ?_ _ | refine blk_drew ?_ | refine blk_alloc ?_ _)); refine blk_far ?_ NB833_853.out _; (with_reducible repeat (first | refine blk_drewN ?_ _ | refine blk_drew ?_ | refine blk_alloc ?_ _)); refine blk_far ?_ NB833_853.out _; (with_reducible repeat (first | refine blk_drewN ?_ _ | refine blk_drew ?_ | refine blk_alloc ?_ _)); refine blk_far ?_ NB833_853.out _; (with_reducible repeat (first | refine blk_drewN ?_ _ | refine blk_drew ?_ | refine blk_alloc ?_ _)); refine blk_far ?_ NB833_853.out _; (with_reducible repeat (first | refine blk_drewN ?_ _ | refine blk_drew ?_ | refine blk_alloc ?_ _)); exact BK833.out) hb); have n8_ := Aside0.mk (blk_below (g := gb853) (o := .cells #[.int .i64 t839, .int .i64 t840, .int .i64 t841, .string t842, .int .i64 t843, .slice Ao49 t844.length co49, .slice Ao50 t847.length co50, .int .i64 t850, .bool t851] 70 (0, 0)) (by (with_reducible repeat (first | refine blk_drewN ?_ _ | refine blk_drew ?_ | refine blk_alloc ?_ _)); refine blk_put (cs := #[.int .i64 t839, .int .i64 t840, .int .i64 t841, .string t842, .int .i64 t843, .slice Ao49 t844.length co49, .slice Ao50 t847.length co50, .int .i64 t850, .bool false]) ?_ 8 _ rfl; (with_reducible repeat (first | refine blk_drewN ?_ _ | refine blk_drew ?_ | refine blk_alloc ?_ _)); refine blk_put (cs := #[.int .i64 t839, .int .i64 t840, .int .i64 t841, .string t842, .int .i64 t843, .slice Ao49 t844.length co49, .slice Ao50 t847.length co50, .int .i64 0, .bool false]) ?_ 7 _ rfl; (with_reducible repeat (first | refine blk_drewN ?_ _ | refine blk_drew ?_ | refine blk_alloc ?_ _)); refine blk_put (cs := #[.int .i64 t839, .int .i64 t840, .int .i64 t841, .string t842, .int .i64 t843, .slice Ao49 t844.length co49, .slice none 0 0, .int .i64 0, .bool false]) ?_ 6 _ rfl; (with_reducible repeat (first | refine blk_drewN ?_ _ | refine blk_drew ?_ | refine blk_alloc ?_ _)); refine blk_put (cs := #[.int .i64 t839, .int .i64 t840, .int .i64 t841, .string t842, .int .i64 t843, .slice none 0 0, .slice none 0 0, .int .i64 0, .bool false]) ?_ 5 _ rfl; (with_reducible repeat (first | refine blk_drewN ?_ _ | refine blk_drew ?_ | refine blk_alloc ?_ _)); refine blk_put (cs := #[.int .i64 t839, .int .i64 t840, .int .i64 t841, .string t842, .int .i64 0, .slice none 0 0, .slice none 0 0, .int .i64 0, .bool false]) ?_ 4 _ rfl; (with_reducible repeat (first | refine blk_drewN ?_ _ | refine blk_drew ?_ | refine blk_alloc ?_ _)); refine blk_put (cs := #[.int .i64 t839, .int .i64 t840, .int .i64 t841, .string (⟨#[]⟩ : ByteArray), .int .i64 0, .slice none 0 0, .slice none 0 0, .int .i64 0, .bool false]) ?_ 3 _ rfl; (with_reducible repeat (first | refine blk_drewN ?_ _ | refine blk_drew ?_ | refine blk_alloc ?_ _)); refine blk_put (cs := #[.int .i64 t839, .int .i64 t840, .int .i64 0, .string (⟨#[]⟩ : ByteArray), .int .i64 0, .slice none 0 0, .slice none 0 0, .int .i64 0, .bool false]) ?_ 2 _ rfl; (with_reducible repeat (first | refine blk_drewN ?_ _ | refine blk_drew ?_ | refine blk_alloc ?_ _)); refine blk_put (cs := #[.int .i64 t839, .int .i64 0, .int .i64 0, .string (⟨#[]⟩ : ByteArray), .int .i64 0, .slice none 0 0, .slice none 0 0, .int .i64 0, .bool false]) ?_ 1 _ rfl; (with_reducible repeat (first | refine blk_drewN ?_ _ | refine blk_drew ?_ | refine blk_alloc ?_ _)); refine blk_put (cs := #[.int .i64 0, .int .i64 0, .int .i64 0, .string (⟨#[]⟩ : ByteArray), .int .i64 0, .slice none 0 0, .slice none 0 0, .int .i64 0, .bool false]) ?_ 0 _ rfl; (with_reducible repeat (first | refine blk_drewN ?_ _ | refine blk_drew ?_ | refine blk_alloc ?_ _)); exact BK853.out) hb); have n9_ := Aside0.mk (below_step (by repeat (first | (with_reducible first | exact HB.out | apply below_alloc | apply pw_below_drewN | apply below_drew1 | refine below_set ?_ GE818.out | refine below_set ?_ GE833.out | refine below_set ?_ GE853.out) | exact HB.out)) hb); clear HO_819005; clear HO_819006; clear HO_834005; clear HO_834006; clear HO846; clear HO849; clear BK818; clear BK833; clear BK853; clear HB; have HO_819005 := n0_; have HO_819006 := n1_; have HO_834005 := n2_; have HO_834006 := n3_; have HO846 := n4_; have HO849 := n5_; have BK818 := n6_; have BK833 := n7_; have BK853 := n8_; have HB := n9_; clear n0_ n1_ n2_ n3_ n4_ n5_ n6_ n7_ n8_ n9_; (try clear hb); (try clear hb2); (try clear hk); (try clear hi)))
        go_meet
        case rel => exact ⟨_, ((t852 != t817)), (by first | rfl | (simp; done) | (simp [*]; done)), H', ⟨by have := HJ4.out; first | omega | exact Nat.le_refl _⟩, ⟨by (with_reducible repeat (first | apply Kd.R_alloc | apply Kd.R_drewN | apply Kd.R_drew)); exact Kd.R_mono HO_819005.out (fun _ hk => ⟨hk.1.1.1, ⟨hk.1.1.2.1, ⟨hk.1.1.2.2, ⟨hk.1.2, hk.2⟩⟩⟩⟩)⟩, ⟨by (with_reducible repeat (first | apply Kd.R_alloc | apply Kd.R_drewN | apply Kd.R_drew)); exact Kd.R_mono HO_819006.out (fun _ hk => ⟨hk.1.1.1, ⟨hk.1.1.2.1, ⟨hk.1.1.2.2, ⟨hk.1.2, hk.2⟩⟩⟩⟩)⟩, ⟨by (with_reducible repeat (first | apply Kd.R_alloc | apply Kd.R_drewN | apply Kd.R_drew)); exact Kd.R_mono HO_834005.out (fun _ hk => ⟨hk.1.1.1, ⟨hk.1.1.2.1, ⟨hk.1.1.2.2, ⟨hk.1.2, hk.2⟩⟩⟩⟩)⟩, ⟨by (with_reducible repeat (first | apply Kd.R_alloc | apply Kd.R_drewN | apply Kd.R_drew)); exact Kd.R_mono HO_834006.out (fun _ hk => ⟨hk.1.1.1, ⟨hk.1.1.2.1, ⟨hk.1.1.2.2, ⟨hk.1.2, hk.2⟩⟩⟩⟩)⟩, ⟨by (with_reducible repeat (first | apply Kd.R_alloc | apply Kd.R_drewN | apply Kd.R_drew)); exact Kd.R_mono HO846.out (fun _ hk => ⟨hk.1.1.1.2, ⟨hk.1.1.2, ⟨hk.1.2, ⟨hk.2, hk.1.1.1.1⟩⟩⟩⟩)⟩, ⟨by (with_reducible repeat (first | apply Kd.R_alloc | apply Kd.R_drewN | apply Kd.R_drew)); exact Kd.R_mono HO849.out (fun _ hk => ⟨hk.1.1.1.2, ⟨hk.1.1.2, ⟨hk.1.2, ⟨hk.2, hk.1.1.1.1⟩⟩⟩⟩)⟩, ⟨by (with_reducible repeat (first | refine blk_drewN ?_ _ | refine blk_drew ?_ | refine blk_alloc ?_ _)); exact BK818.out⟩, ⟨by (with_reducible repeat (first | refine blk_drewN ?_ _ | refine blk_drew ?_ | refine blk_alloc ?_ _)); exact BK833.out⟩, ⟨by (with_reducible repeat (first | refine blk_drewN ?_ _ | refine blk_drew ?_ | refine blk_alloc ?_ _)); exact BK853.out⟩, ⟨by repeat (first | (with_reducible first | exact HB.out | apply below_alloc | apply pw_below_drewN | apply below_drew1 | refine below_set ?_ GE818.out | refine below_set ?_ GE833.out | refine below_set ?_ GE853.out) | exact HB.out)⟩⟩
       ·replace c52 := Bool.eq_false_iff.mpr c52
        subst c52
        have H1 : (laws_FnExactNewSession.j1 kj4 t835 true t819 t820 t821 t822 t823 t836 t837 t830 t831) = some r := by rw [if_neg (show ¬ (false = true) by decide)] at H; exact H
        clear H
        have H := H1
        clear H1
        have H' := Aside0.mk H
        clear H
        have hnb59 := NB853_818.out
        have hnc59 := NB818_853.out
        have hnb60 := NB853_833.out
        have hnc60 := NB833_853.out
        have hcz61_0 : w45.cell? ⟨gb853, 0, none⟩ = some (.int .i64 0) := (blk_cell BK853.out 0).trans rfl
        have hcz61_1 : w45.cell? ⟨gb853, 1, none⟩ = some (.int .i64 0) := (blk_cell BK853.out 1).trans rfl
        have hcz61_2 : w45.cell? ⟨gb853, 2, none⟩ = some (.int .i64 0) := (blk_cell BK853.out 2).trans rfl
        have hcz61_3 : w45.cell? ⟨gb853, 3, none⟩ = some (.string (⟨#[]⟩ : ByteArray)) := (blk_cell BK853.out 3).trans rfl
        have hcz61_4 : w45.cell? ⟨gb853, 4, none⟩ = some (.int .i64 0) := (blk_cell BK853.out 4).trans rfl
        have hcz61_5 : w45.cell? ⟨gb853, 5, none⟩ = some (.slice none 0 0) := (blk_cell BK853.out 5).trans rfl
        have hcz61_6 : w45.cell? ⟨gb853, 6, none⟩ = some (.slice none 0 0) := (blk_cell BK853.out 6).trans rfl
        have hcz61_7 : w45.cell? ⟨gb853, 7, none⟩ = some (.int .i64 0) := (blk_cell BK853.out 7).trans rfl
        have hcz61_8 : w45.cell? ⟨gb853, 8, none⟩ = some (.bool false) := (blk_cell BK853.out 8).trans rfl
        have hfz61_0 := blk_frozen BK853.out 0
        have hfz61_1 := blk_frozen BK853.out 1
        have hfz61_2 := blk_frozen BK853.out 2
        have hfz61_3 := blk_frozen BK853.out 3
        have hfz61_4 := blk_frozen BK853.out 4
        have hfz61_5 := blk_frozen BK853.out 5
        have hfz61_6 := blk_frozen BK853.out 6
        have hfz61_7 := blk_frozen BK853.out 7
        have hfz61_8 := blk_frozen BK853.out 8
        have hnb62 := NB818_833.out
        have hnc62 := NB833_818.out
        have hcz63_0 : w45.cell? ⟨gb818, 0, none⟩ = some (.int .i64 t804) := (blk_cell BK818.out 0).trans rfl
        have hcz63_1 : w45.cell? ⟨gb818, 1, none⟩ = some (.int .i64 t805) := (blk_cell BK818.out 1).trans rfl
        have hcz63_2 : w45.cell? ⟨gb818, 2, none⟩ = some (.int .i64 t806) := (blk_cell BK818.out 2).trans rfl
        have hcz63_3 : w45.cell? ⟨gb818, 3, none⟩ = some (.string t807) := (blk_cell BK818.out 3).trans rfl
        have hcz63_4 : w45.cell? ⟨gb818, 4, none⟩ = some (.int .i64 t808) := (blk_cell BK818.out 4).trans rfl
        have hcz63_5 : w45.cell? ⟨gb818, 5, none⟩ = some (.slice Ao9 t809.length co9) := (blk_cell BK818.out 5).trans rfl
        have hcz63_6 : w45.cell? ⟨gb818, 6, none⟩ = some (.slice Ao10 t812.length co10) := (blk_cell BK818.out 6).trans rfl
        have hcz63_7 : w45.cell? ⟨gb818, 7, none⟩ = some (.int .i64 t815) := (blk_cell BK818.out 7).trans rfl
        have hcz63_8 : w45.cell? ⟨gb818, 8, none⟩ = some (.bool t816) := (blk_cell BK818.out 8).trans rfl
        have hfz63_0 := blk_frozen BK818.out 0
        have hfz63_1 := blk_frozen BK818.out 1
        have hfz63_2 := blk_frozen BK818.out 2
        have hfz63_3 := blk_frozen BK818.out 3
        have hfz63_4 := blk_frozen BK818.out 4
        have hfz63_5 := blk_frozen BK818.out 5
        have hfz63_6 := blk_frozen BK818.out 6
        have hfz63_7 := blk_frozen BK818.out 7
        have hfz63_8 := blk_frozen BK818.out 8
        go_wp2_with (first | ((with_reducible refine gate_callee (f := 51) rfl ?_); refine goesL_ (some 53) rfl rfl Try.func51 (by kernel_rfl) rfl #[.agg #[.int .i64 t839, .int .i64 t840, .int .i64 t841, .string t842, .int .i64 t843, .slice Ao49 t844.length co49, .slice Ao50 t847.length co50, .int .i64 t850, .bool t851], .agg #[.int .i64 t804, .int .i64 t805, .int .i64 t806, .string t807, .int .i64 t808, .slice Ao9 t809.length co9, .slice Ao10 t812.length co10, .int .i64 t815, .bool t816]] rfl (by (try simp only [List.map_toArray, List.map_cons, List.map_nil]); first | done | rfl | (simp only [List.length_drop, List.length_take]; rfl)) ?_; (with_reducible refine (laws_eqSession.calls kj4 t839 t840 t841 t842 t843 _ _ t844 _ _ t847 t850 t851 t804 t805 t806 t807 t808 _ _ t809 _ _ t812 t815 t816 false _ ?side1 ?side2 ?side3 ?side4 ?side5 ?side6 ?side7 ?side8 A51.out).mono ?_); (case side1 => refine (Kd.R_reads' (e := 3) (base := w.heap.size) (ok := fun k_ => ((((some k_ ≠ (.slice Ao50 t847.length co50 : Value).ownBlock ∧ some k_ ≠ (.slice Ao9 t809.length co9 : Value).ownBlock) ∧ some k_ ≠ (.slice Ao10 t812.length co10 : Value).ownBlock) ∧ some k_ ≠ (.slice Ao15 t824.length co15 : Value).ownBlock) ∧ some k_ ≠ (.slice Ao16 t827.length co16 : Value).ownBlock)) (n := t844.length) (c := co49) ?_).2.2; exact (by (with_reducible repeat (first | apply Kd.R_alloc | apply Kd.R_drewN | apply Kd.R_drew)); exact (Kd.R_mono (Kd.R_far (p := ⟨gb853, 8, none⟩) (Kd.R_far (p := ⟨gb853, 7, none⟩) (Kd.R_far (p := ⟨gb853, 6, none⟩) (Kd.R_far (p := ⟨gb853, 5, none⟩) (Kd.R_far (p := ⟨gb853, 4, none⟩) (Kd.R_far (p := ⟨gb853, 3, none⟩) (Kd.R_far (p := ⟨gb853, 2, none⟩) (Kd.R_far (p := ⟨gb853, 1, none⟩) (Kd.R_far (p := ⟨gb853, 0, none⟩) (Kd.R_types HO846.out BK853.out (by decide)) (fun _ hk => hk.2) (.int .i64 t839)) (fun _ hk => hk.2) (.int .i64 t840)) (fun _ hk => hk.2) (.int .i64 t841)) (fun _ hk => hk.2) (.string t842)) (fun _ hk => hk.2) (.int .i64 t843)) (fun _ hk => hk.2) (.slice Ao49 t844.length co49)) (fun _ hk => hk.2) (.slice Ao50 t847.length co50)) (fun _ hk => hk.2) (.int .i64 t850)) (fun _ hk => hk.2) (.bool t851)) (fun _ h_ => h_.1)))); (case side2 => exact (Kd.R_reads' HO846.out).2.1); (case side3 => refine (Kd.R_reads' (e := 3) (base := w.heap.size) (ok := fun k_ => ((((some k_ ≠ (.slice Ao49 t844.length co49 : Value).ownBlock ∧ some k_ ≠ (.slice Ao9 t809.length co9 : Value).ownBlock) ∧ some k_ ≠ (.slice Ao10 t812.length co10 : Value).ownBlock) ∧ some k_ ≠ (.slice Ao15 t824.length co15 : Value).ownBlock) ∧ some k_ ≠ (.slice Ao16 t827.length co16 : Value).ownBlock)) (n := t847.length) (c := co50) ?_).2.2; exact (by (with_reducible repeat (first | apply Kd.R_alloc | apply Kd.R_drewN | apply Kd.R_drew)); exact (Kd.R_mono (Kd.R_far (p := ⟨gb853, 8, none⟩) (Kd.R_far (p := ⟨gb853, 7, none⟩) (Kd.R_far (p := ⟨gb853, 6, none⟩) (Kd.R_far (p := ⟨gb853, 5, none⟩) (Kd.R_far (p := ⟨gb853, 4, none⟩) (Kd.R_far (p := ⟨gb853, 3, none⟩) (Kd.R_far (p := ⟨gb853, 2, none⟩) (Kd.R_far (p := ⟨gb853, 1, none⟩) (Kd.R_far (p := ⟨gb853, 0, none⟩) (Kd.R_types HO849.out BK853.out (by decide)) (fun _ hk => hk.2) (.int .i64 t839)) (fun _ hk => hk.2) (.int .i64 t840)) (fun _ hk => hk.2) (.int .i64 t841)) (fun _ hk => hk.2) (.string t842)) (fun _ hk => hk.2) (.int .i64 t843)) (fun _ hk => hk.2) (.slice Ao49 t844.length co49)) (fun _ hk => hk.2) (.slice Ao50 t847.length co50)) (fun _ hk => hk.2) (.int .i64 t850)) (fun _ hk => hk.2) (.bool t851)) (fun _ h_ => h_.1)))); (case side4 => exact (Kd.R_reads' HO849.out).2.1); (case side5 => refine (Kd.R_reads' (e := 3) (base := w.heap.size) (ok := fun k_ => (((some k_ ≠ (.slice Ao10 t812.length co10 : Value).ownBlock ∧ (some k_ ≠ (.slice Ao15 t824.length co15 : Value).ownBlock ∧ some k_ ≠ (.slice Ao16 t827.length co16 : Value).ownBlock)) ∧ some k_ ≠ (.slice Ao49 t844.length co49 : Value).ownBlock) ∧ some k_ ≠ (.slice Ao50 t847.length co50 : Value).ownBlock)) (n := t809.length) (c := co9) ?_).2.2; exact (by (with_reducible repeat (first | apply Kd.R_alloc | apply Kd.R_drewN | apply Kd.R_drew)); exact (Kd.R_mono (Kd.R_far (p := ⟨gb853, 8, none⟩) (Kd.R_far (p := ⟨gb853, 7, none⟩) (Kd.R_far (p := ⟨gb853, 6, none⟩) (Kd.R_far (p := ⟨gb853, 5, none⟩) (Kd.R_far (p := ⟨gb853, 4, none⟩) (Kd.R_far (p := ⟨gb853, 3, none⟩) (Kd.R_far (p := ⟨gb853, 2, none⟩) (Kd.R_far (p := ⟨gb853, 1, none⟩) (Kd.R_far (p := ⟨gb853, 0, none⟩) (Kd.R_types HO_819005.out BK853.out (by decide)) (fun _ hk => hk.2) (.int .i64 t839)) (fun _ hk => hk.2) (.int .i64 t840)) (fun _ hk => hk.2) (.int .i64 t841)) (fun _ hk => hk.2) (.string t842)) (fun _ hk => hk.2) (.int .i64 t843)) (fun _ hk => hk.2) (.slice Ao49 t844.length co49)) (fun _ hk => hk.2) (.slice Ao50 t847.length co50)) (fun _ hk => hk.2) (.int .i64 t850)) (fun _ hk => hk.2) (.bool t851)) (fun _ h_ => h_.1)))); (case side6 => exact (Kd.R_reads' HO_819005.out).2.1); (case side7 => refine (Kd.R_reads' (e := 3) (base := w.heap.size) (ok := fun k_ => (((some k_ ≠ (.slice Ao9 t809.length co9 : Value).ownBlock ∧ (some k_ ≠ (.slice Ao15 t824.length co15 : Value).ownBlock ∧ some k_ ≠ (.slice Ao16 t827.length co16 : Value).ownBlock)) ∧ some k_ ≠ (.slice Ao49 t844.length co49 : Value).ownBlock) ∧ some k_ ≠ (.slice Ao50 t847.length co50 : Value).ownBlock)) (n := t812.length) (c := co10) ?_).2.2; exact (by (with_reducible repeat (first | apply Kd.R_alloc | apply Kd.R_drewN | apply Kd.R_drew)); exact (Kd.R_mono (Kd.R_far (p := ⟨gb853, 8, none⟩) (Kd.R_far (p := ⟨gb853, 7, none⟩) (Kd.R_far (p := ⟨gb853, 6, none⟩) (Kd.R_far (p := ⟨gb853, 5, none⟩) (Kd.R_far (p := ⟨gb853, 4, none⟩) (Kd.R_far (p := ⟨gb853, 3, none⟩) (Kd.R_far (p := ⟨gb853, 2, none⟩) (Kd.R_far (p := ⟨gb853, 1, none⟩) (Kd.R_far (p := ⟨gb853, 0, none⟩) (Kd.R_types HO_819006.out BK853.out (by decide)) (fun _ hk => hk.2) (.int .i64 t839)) (fun _ hk => hk.2) (.int .i64 t840)) (fun _ hk => hk.2) (.int .i64 t841)) (fun _ hk => hk.2) (.string t842)) (fun _ hk => hk.2) (.int .i64 t843)) (fun _ hk => hk.2) (.slice Ao49 t844.length co49)) (fun _ hk => hk.2) (.slice Ao50 t847.length co50)) (fun _ hk => hk.2) (.int .i64 t850)) (fun _ hk => hk.2) (.bool t851)) (fun _ h_ => h_.1)))); (case side8 => exact (Kd.R_reads' HO_819006.out).2.1); rintro e w64 ⟨rfl, hb⟩; refine ⟨_, rfl, ?_⟩; have n0_ := Aside0.mk (Kd.R_below (by (with_reducible repeat (first | apply Kd.R_alloc | apply Kd.R_drewN | apply Kd.R_drew)); exact (Kd.R_mono (Kd.R_far (p := ⟨gb853, 8, none⟩) (Kd.R_far (p := ⟨gb853, 7, none⟩) (Kd.R_far (p := ⟨gb853, 6, none⟩) (Kd.R_far (p := ⟨gb853, 5, none⟩) (Kd.R_far (p := ⟨gb853, 4, none⟩) (Kd.R_far (p := ⟨gb853, 3, none⟩) (Kd.R_far (p := ⟨gb853, 2, none⟩) (Kd.R_far (p := ⟨gb853, 1, none⟩) (Kd.R_far (p := ⟨gb853, 0, none⟩) (Kd.R_types HO_819005.out BK853.out (by decide)) (fun _ hk => hk.2) (.int .i64 t839)) (fun _ hk => hk.2) (.int .i64 t840)) (fun _ hk => hk.2) (.int .i64 t841)) (fun _ hk => hk.2) (.string t842)) (fun _ hk => hk.2) (.int .i64 t843)) (fun _ hk => hk.2) (.slice Ao49 t844.length co49)) (fun _ hk => hk.2) (.slice Ao50 t847.length co50)) (fun _ hk => hk.2) (.int .i64 t850)) (fun _ hk => hk.2) (.bool t851)) (fun _ h_ => h_.1))) hb); have n1_ := Aside0.mk (Kd.R_below (by (with_reducible repeat (first | apply Kd.R_alloc | apply Kd.R_drewN | apply Kd.R_drew)); exact (Kd.R_mono (Kd.R_far (p := ⟨gb853, 8, none⟩) (Kd.R_far (p := ⟨gb853, 7, none⟩) (Kd.R_far (p := ⟨gb853, 6, none⟩) (Kd.R_far (p := ⟨gb853, 5, none⟩) (Kd.R_far (p := ⟨gb853, 4, none⟩) (Kd.R_far (p := ⟨gb853, 3, none⟩) (Kd.R_far (p := ⟨gb853, 2, none⟩) (Kd.R_far (p := ⟨gb853, 1, none⟩) (Kd.R_far (p := ⟨gb853, 0, none⟩) (Kd.R_types HO_819006.out BK853.out (by decide)) (fun _ hk => hk.2) (.int .i64 t839)) (fun _ hk => hk.2) (.int .i64 t840)) (fun _ hk => hk.2) (.int .i64 t841)) (fun _ hk => hk.2) (.string t842)) (fun _ hk => hk.2) (.int .i64 t843)) (fun _ hk => hk.2) (.slice Ao49 t844.length co49)) (fun _ hk => hk.2) (.slice Ao50 t847.length co50)) (fun _ hk => hk.2) (.int .i64 t850)) (fun _ hk => hk.2) (.bool t851)) (fun _ h_ => h_.1))) hb); have n2_ := Aside0.mk (Kd.R_below (by (with_reducible repeat (first | apply Kd.R_alloc | apply Kd.R_drewN | apply Kd.R_drew)); exact (Kd.R_mono (Kd.R_far (p := ⟨gb853, 8, none⟩) (Kd.R_far (p := ⟨gb853, 7, none⟩) (Kd.R_far (p := ⟨gb853, 6, none⟩) (Kd.R_far (p := ⟨gb853, 5, none⟩) (Kd.R_far (p := ⟨gb853, 4, none⟩) (Kd.R_far (p := ⟨gb853, 3, none⟩) (Kd.R_far (p := ⟨gb853, 2, none⟩) (Kd.R_far (p := ⟨gb853, 1, none⟩) (Kd.R_far (p := ⟨gb853, 0, none⟩) (Kd.R_types HO_834005.out BK853.out (by decide)) (fun _ hk => hk.2) (.int .i64 t839)) (fun _ hk => hk.2) (.int .i64 t840)) (fun _ hk => hk.2) (.int .i64 t841)) (fun _ hk => hk.2) (.string t842)) (fun _ hk => hk.2) (.int .i64 t843)) (fun _ hk => hk.2) (.slice Ao49 t844.length co49)) (fun _ hk => hk.2) (.slice Ao50 t847.length co50)) (fun _ hk => hk.2) (.int .i64 t850)) (fun _ hk => hk.2) (.bool t851)) (fun _ h_ => h_.1))) hb); have n3_ := Aside0.mk (Kd.R_below (by (with_reducible repeat (first | apply Kd.R_alloc | apply Kd.R_drewN | apply Kd.R_drew)); exact (Kd.R_mono (Kd.R_far (p := ⟨gb853, 8, none⟩) (Kd.R_far (p := ⟨gb853, 7, none⟩) (Kd.R_far (p := ⟨gb853, 6, none⟩) (Kd.R_far (p := ⟨gb853, 5, none⟩) (Kd.R_far (p := ⟨gb853, 4, none⟩) (Kd.R_far (p := ⟨gb853, 3, none⟩) (Kd.R_far (p := ⟨gb853, 2, none⟩) (Kd.R_far (p := ⟨gb853, 1, none⟩) (Kd.R_far (p := ⟨gb853, 0, none⟩) (Kd.R_types HO_834006.out BK853.out (by decide)) (fun _ hk => hk.2) (.int .i64 t839)) (fun _ hk => hk.2) (.int .i64 t840)) (fun _ hk => hk.2) (.int .i64 t841)) (fun _ hk => hk.2) (.string t842)) (fun _ hk => hk.2) (.int .i64 t843)) (fun _ hk => hk.2) (.slice Ao49 t844.length co49)) (fun _ hk => hk.2) (.slice Ao50 t847.length co50)) (fun _ hk => hk.2) (.int .i64 t850)) (fun _ hk => hk.2) (.bool t851)) (fun _ h_ => h_.1))) hb); have n4_ := Aside0.mk (Kd.R_below (by (with_reducible repeat (first | apply Kd.R_alloc | apply Kd.R_drewN | apply Kd.R_drew)); exact (Kd.R_mono (Kd.R_far (p := ⟨gb853, 8, none⟩) (Kd.R_far (p := ⟨gb853, 7, none⟩) (Kd.R_far (p := ⟨gb853, 6, none⟩) (Kd.R_far (p := ⟨gb853, 5, none⟩) (Kd.R_far (p := ⟨gb853, 4, none⟩) (Kd.R_far (p := ⟨gb853, 3, none⟩) (Kd.R_far (p := ⟨gb853, 2, none⟩) (Kd.R_far (p := ⟨gb853, 1, none⟩) (Kd.R_far (p := ⟨gb853, 0, none⟩) (Kd.R_types HO846.out BK853.out (by decide)) (fun _ hk => hk.2) (.int .i64 t839)) (fun _ hk => hk.2) (.int .i64 t840)) (fun _ hk => hk.2) (.int .i64 t841)) (fun _ hk => hk.2) (.string t842)) (fun _ hk => hk.2) (.int .i64 t843)) (fun _ hk => hk.2) (.slice Ao49 t844.length co49)) (fun _ hk => hk.2) (.slice Ao50 t847.length co50)) (fun _ hk => hk.2) (.int .i64 t850)) (fun _ hk => hk.2) (.bool t851)) (fun _ h_ => h_.1))) hb); have n5_ := Aside0.mk (Kd.R_below (by (with_reducible repeat (first | apply Kd.R_alloc | apply Kd.R_drewN | apply Kd.R_drew)); exact (Kd.R_mono (Kd.R_far (p := ⟨gb853, 8, none⟩) (Kd.R_far (p := ⟨gb853, 7, none⟩) (Kd.R_far (p := ⟨gb853, 6, none⟩) (Kd.R_far (p := ⟨gb853, 5, none⟩) (Kd.R_far (p := ⟨gb853, 4, none⟩) (Kd.R_far (p := ⟨gb853, 3, none⟩) (Kd.R_far (p := ⟨gb853, 2, none⟩) (Kd.R_far (p := ⟨gb853, 1, none⟩) (Kd.R_far (p := ⟨gb853, 0, none⟩) (Kd.R_types HO849.out BK853.out (by decide)) (fun _ hk => hk.2) (.int .i64 t839)) (fun _ hk => hk.2) (.int .i64 t840)) (fun _ hk => hk.2) (.int .i64 t841)) (fun _ hk => hk.2) (.string t842)) (fun _ hk => hk.2) (.int .i64 t843)) (fun _ hk => hk.2) (.slice Ao49 t844.length co49)) (fun _ hk => hk.2) (.slice Ao50 t847.length co50)) (fun _ hk => hk.2) (.int .i64 t850)) (fun _ hk => hk.2) (.bool t851)) (fun _ h_ => h_.1))) hb); have n6_ := Aside0.mk (blk_below (g := gb818) (o := .cells #[.int .i64 t804, .int .i64 t805, .int .i64 t806, .string t807, .int .i64 t808, .slice Ao9 t809.length co9, .slice Ao10 t812.length co10, .int .i64 t815, .bool t816] 70 (0, 0)) (by (with_reducible repeat (first | refine blk_drewN ?_ _ | refine blk_drew ?_ | refine blk_alloc ?_ _)); refine blk_far ?_ NB818_853.out _; (with_reducible repeat (first | refine blk_drewN ?_ _ | refine blk_drew ?_ | refine blk_alloc ?_ _)); refine blk_far ?_ NB818_853.out _; (with_reducible repeat (first | refine blk_drewN ?_ _ | refine blk_drew ?_ | refine blk_alloc ?_ _)); refine blk_far ?_ NB818_853.out _; (with_reducible repeat (first | refine blk_drewN ?_ _ | refine blk_drew ?_ | refine blk_alloc ?_ _)); refine blk_far ?_ NB818_853.out _; (with_reducible repeat (first | refine blk_drewN ?_ _ | refine blk_drew ?_ | refine blk_alloc ?_ _)); refine blk_far ?_ NB818_853.out _; (with_reducible repeat (first | refine blk_drewN ?_ _ | refine blk_drew ?_ | refine blk_alloc ?_ _)); refine blk_far ?_ NB818_853.out _; (with_reducible repeat (first | refine blk_drewN ?_ _ | refine blk_drew ?_ | refine blk_alloc ?_ _)); refine blk_far ?_ NB818_853.out _; (with_reducible repeat (first | refine blk_drewN ?_ _ | refine blk_drew ?_ | refine blk_alloc ?_ _)); refine blk_far ?_ NB818_853.out _; (with_reducible repeat (first | refine blk_drewN ?_ _ | refine blk_drew ?_ | refine blk_alloc ?_ _)); refine blk_far ?_ NB818_853.out _; (with_reducible repeat (first | refine blk_drewN ?_ _ | refine blk_drew ?_ | refine blk_alloc ?_ _)); exact BK818.out) hb); have n7_ := Aside0.mk (blk_below (g := gb833) (o := .cells #[.int .i64 t819, .int .i64 t820, .int .i64 t821, .string t822, .int .i64 t823, .slice Ao15 t824.length co15, .slice Ao16 t827.length co16, .int .i64 t830, .bool t831] 70 (0, 0)) (by (with_reducible repeat (first | refine blk_drewN ?_ _ | refine blk_drew ?_ | refine blk_alloc ?_ _)); refine blk_far ?_ NB833_853.out _; (with_reducible repeat (first | refine blk_drewN ?_ _ | refine blk_drew ?_ | refine blk_alloc ?_ _)); refine blk_far ?_ NB833_853.out _; (with_reducible repeat (first | refine blk_drewN ?_ _ | refine blk_drew ?_ | refine blk_alloc ?_ _)); refine blk_far ?_ NB833_853.out _; (with_reducible repeat (first | refine blk_drewN ?_ _ | refine blk_drew ?_ | refine blk_alloc ?_ _)); refine blk_far ?_ NB833_853.out _; (with_reducible repeat (first | refine blk_drewN ?_ _ | refine blk_drew ?_ | refine blk_alloc ?_ _)); refine blk_far ?_ NB833_853.out _; (with_reducible repeat (first | refine blk_drewN ?_ _ | refine blk_drew ?_ | refine blk_alloc ?_ _)); refine blk_far ?_ NB833_853.out _; (with_reducible repeat (first | refine blk_drewN ?_ _ | refine blk_drew ?_ | refine blk_alloc ?_ _)); refine blk_far ?_ NB833_853.out _; (with_reducible repeat (first | refine blk_drewN ?_ _ | refine blk_drew ?_ | refine blk_alloc ?_ _)); refine blk_far ?_ NB833_853.out _; (with_reducible repeat (first | refine blk_drewN ?_ _ | refine blk_drew ?_ | refine blk_alloc ?_ _)); refine blk_far ?_ NB833_853.out _; (with_reducible repeat (first | refine blk_drewN ?_ _ | refine blk_drew ?_ | refine blk_alloc ?_ _)); exact BK833.out) hb); have n8_ := Aside0.mk (blk_below (g := gb853) (o := .cells #[.int .i64 t839, .int .i64 t840, .int .i64 t841, .string t842, .int .i64 t843, .slice Ao49 t844.length co49, .slice Ao50 t847.length co50, .int .i64 t850, .bool t851] 70 (0, 0)) (by (with_reducible repeat (first | refine blk_drewN ?_ _ | refine blk_drew ?_ | refine blk_alloc ?_ _)); refine blk_put (cs := #[.int .i64 t839, .int .i64 t840, .int .i64 t841, .string t842, .int .i64 t843, .slice Ao49 t844.length co49, .slice Ao50 t847.length co50, .int .i64 t850, .bool false]) ?_ 8 _ rfl; (with_reducible repeat (first | refine blk_drewN ?_ _ | refine blk_drew ?_ | refine blk_alloc ?_ _)); refine blk_put (cs := #[.int .i64 t839, .int .i64 t840, .int .i64 t841, .string t842, .int .i64 t843, .slice Ao49 t844.length co49, .slice Ao50 t847.length co50, .int .i64 0, .bool false]) ?_ 7 _ rfl; (with_reducible repeat (first | refine blk_drewN ?_ _ | refine blk_drew ?_ | refine blk_alloc ?_ _)); refine blk_put (cs := #[.int .i64 t839, .int .i64 t840, .int .i64 t841, .string t842, .int .i64 t843, .slice Ao49 t844.length co49, .slice none 0 0, .int .i64 0, .bool false]) ?_ 6 _ rfl; (with_reducible repeat (first | refine blk_drewN ?_ _ | refine blk_drew ?_ | refine blk_alloc ?_ _)); refine blk_put (cs := #[.int .i64 t839, .int .i64 t840, .int .i64 t841, .string t842, .int .i64 t843, .slice none 0 0, .slice none 0 0, .int .i64 0, .bool false]) ?_ 5 _ rfl; (with_reducible repeat (first | refine blk_drewN ?_ _ | refine blk_drew ?_ | refine blk_alloc ?_ _)); refine blk_put (cs := #[.int .i64 t839, .int .i64 t840, .int .i64 t841, .string t842, .int .i64 0, .slice none 0 0, .slice none 0 0, .int .i64 0, .bool false]) ?_ 4 _ rfl; (with_reducible repeat (first | refine blk_drewN ?_ _ | refine blk_drew ?_ | refine blk_alloc ?_ _)); refine blk_put (cs := #[.int .i64 t839, .int .i64 t840, .int .i64 t841, .string (⟨#[]⟩ : ByteArray), .int .i64 0, .slice none 0 0, .slice none 0 0, .int .i64 0, .bool false]) ?_ 3 _ rfl; (with_reducible repeat (first | refine blk_drewN ?_ _ | refine blk_drew ?_ | refine blk_alloc ?_ _)); refine blk_put (cs := #[.int .i64 t839, .int .i64 t840, .int .i64 0, .string (⟨#[]⟩ : ByteArray), .int .i64 0, .slice none 0 0, .slice none 0 0, .int .i64 0, .bool false]) ?_ 2 _ rfl; (with_reducible repeat (first | refine blk_drewN ?_ _ | refine blk_drew ?_ | refine blk_alloc ?_ _)); refine blk_put (cs := #[.int .i64 t839, .int .i64 0, .int .i64 0, .string (⟨#[]⟩ : ByteArray), .int .i64 0, .slice none 0 0, .slice none 0 0, .int .i64 0, .bool false]) ?_ 1 _ rfl; (with_reducible repeat (first | refine blk_drewN ?_ _ | refine blk_drew ?_ | refine blk_alloc ?_ _)); refine blk_put (cs := #[.int .i64 0, .int .i64 0, .int .i64 0, .string (⟨#[]⟩ : ByteArray), .int .i64 0, .slice none 0 0, .slice none 0 0, .int .i64 0, .bool false]) ?_ 0 _ rfl; (with_reducible repeat (first | refine blk_drewN ?_ _ | refine blk_drew ?_ | refine blk_alloc ?_ _)); exact BK853.out) hb); have n9_ := Aside0.mk (below_step (by repeat (first | (with_reducible first | exact HB.out | apply below_alloc | apply pw_below_drewN | apply below_drew1 | refine below_set ?_ GE818.out | refine below_set ?_ GE833.out | refine below_set ?_ GE853.out) | exact HB.out)) hb); clear HO_819005; clear HO_819006; clear HO_834005; clear HO_834006; clear HO846; clear HO849; clear BK818; clear BK833; clear BK853; clear HB; have HO_819005 := n0_; have HO_819006 := n1_; have HO_834005 := n2_; have HO_834006 := n3_; have HO846 := n4_; have HO849 := n5_; have BK818 := n6_; have BK833 := n7_; have BK853 := n8_; have HB := n9_; clear n0_ n1_ n2_ n3_ n4_ n5_ n6_ n7_ n8_ n9_; (try clear hb); (try clear hb2); (try clear hk); (try clear hi)))
        go_meet
        case rel => exact ⟨_, (true), (by first | rfl | (simp; done) | (simp [*]; done)), H', ⟨by have := HJ4.out; first | omega | exact Nat.le_refl _⟩, ⟨by (with_reducible repeat (first | apply Kd.R_alloc | apply Kd.R_drewN | apply Kd.R_drew)); exact Kd.R_mono HO_819005.out (fun _ hk => ⟨hk.1.1.1, ⟨hk.1.1.2.1, ⟨hk.1.1.2.2, ⟨hk.1.2, hk.2⟩⟩⟩⟩)⟩, ⟨by (with_reducible repeat (first | apply Kd.R_alloc | apply Kd.R_drewN | apply Kd.R_drew)); exact Kd.R_mono HO_819006.out (fun _ hk => ⟨hk.1.1.1, ⟨hk.1.1.2.1, ⟨hk.1.1.2.2, ⟨hk.1.2, hk.2⟩⟩⟩⟩)⟩, ⟨by (with_reducible repeat (first | apply Kd.R_alloc | apply Kd.R_drewN | apply Kd.R_drew)); exact Kd.R_mono HO_834005.out (fun _ hk => ⟨hk.1.1.1, ⟨hk.1.1.2.1, ⟨hk.1.1.2.2, ⟨hk.1.2, hk.2⟩⟩⟩⟩)⟩, ⟨by (with_reducible repeat (first | apply Kd.R_alloc | apply Kd.R_drewN | apply Kd.R_drew)); exact Kd.R_mono HO_834006.out (fun _ hk => ⟨hk.1.1.1, ⟨hk.1.1.2.1, ⟨hk.1.1.2.2, ⟨hk.1.2, hk.2⟩⟩⟩⟩)⟩, ⟨by (with_reducible repeat (first | apply Kd.R_alloc | apply Kd.R_drewN | apply Kd.R_drew)); exact Kd.R_mono HO846.out (fun _ hk => ⟨hk.1.1.1.2, ⟨hk.1.1.2, ⟨hk.1.2, ⟨hk.2, hk.1.1.1.1⟩⟩⟩⟩)⟩, ⟨by (with_reducible repeat (first | apply Kd.R_alloc | apply Kd.R_drewN | apply Kd.R_drew)); exact Kd.R_mono HO849.out (fun _ hk => ⟨hk.1.1.1.2, ⟨hk.1.1.2, ⟨hk.1.2, ⟨hk.2, hk.1.1.1.1⟩⟩⟩⟩)⟩, ⟨by (with_reducible repeat (first | refine blk_drewN ?_ _ | refine blk_drew ?_ | refine blk_alloc ?_ _)); exact BK818.out⟩, ⟨by (with_reducible repeat (first | refine blk_drewN ?_ _ | refine blk_drew ?_ | refine blk_alloc ?_ _)); exact BK833.out⟩, ⟨by (with_reducible repeat (first | refine blk_drewN ?_ _ | refine blk_drew ?_ | refine blk_alloc ?_ _)); exact BK853.out⟩, ⟨by repeat (first | (with_reducible first | exact HB.out | apply below_alloc | apply pw_below_drewN | apply below_drew1 | refine below_set ?_ GE818.out | refine below_set ?_ GE833.out | refine below_set ?_ GE853.out) | exact HB.out)⟩⟩
      case rest =>
       clear HC38
       try clear c1
       try clear c2
       try clear p2
       try clear c3
       try clear c4
       try clear c5
       try clear c6
       try clear c13
       try clear c18
       try clear c19
       try clear c23
       try clear c27
       try clear c30
       try clear c30b0
       try clear c31
       try clear c36
       try clear c36b0
       try clear c36b1
       try clear c39
       try clear c46
       try clear c47
       try clear c49
       try clear c50
       try clear c51
       try clear c52
       try clear c53
       try clear c54
       try clear c56
       try clear c59
       try clear c60
       try clear c62
       try clear hcz14_0
       try clear hcz14_1
       try clear hcz14_2
       try clear hcz14_3
       try clear hcz14_4
       try clear hcz14_5
       try clear hcz14_6
       try clear hcz14_7
       try clear hcz14_8
       try clear hcz20_0
       try clear hcz20_1
       try clear hcz20_2
       try clear hcz20_3
       try clear hcz20_4
       try clear hcz20_5
       try clear hcz20_6
       try clear hcz20_7
       try clear hcz20_8
       try clear hcz21_0
       try clear hcz21_1
       try clear hcz21_2
       try clear hcz21_3
       try clear hcz21_4
       try clear hcz21_5
       try clear hcz21_6
       try clear hcz21_7
       try clear hcz21_8
       try clear hcz24_0
       try clear hcz24_1
       try clear hcz24_2
       try clear hcz24_3
       try clear hcz24_4
       try clear hcz24_5
       try clear hcz24_6
       try clear hcz24_7
       try clear hcz24_8
       try clear hcz25_0
       try clear hcz25_1
       try clear hcz25_2
       try clear hcz25_3
       try clear hcz25_4
       try clear hcz25_5
       try clear hcz25_6
       try clear hcz25_7
       try clear hcz25_8
       try clear hcz32_0
       try clear hcz32_1
       try clear hcz32_2
       try clear hcz32_3
       try clear hcz32_4
       try clear hcz32_5
       try clear hcz32_6
       try clear hcz32_7
       try clear hcz32_8
       try clear hcz34_0
       try clear hcz34_1
       try clear hcz34_2
       try clear hcz34_3
       try clear hcz34_4
       try clear hcz34_5
       try clear hcz34_6
       try clear hcz34_7
       try clear hcz34_8
       try clear hcz40_0
       try clear hcz40_1
       try clear hcz40_2
       try clear hcz40_3
       try clear hcz40_4
       try clear hcz40_5
       try clear hcz40_6
       try clear hcz40_7
       try clear hcz40_8
       try clear hcz42_0
       try clear hcz42_1
       try clear hcz42_2
       try clear hcz42_3
       try clear hcz42_4
       try clear hcz42_5
       try clear hcz42_6
       try clear hcz42_7
       try clear hcz42_8
       try clear hcz48_0
       try clear hcz48_1
       try clear hcz48_2
       try clear hcz48_3
       try clear hcz48_4
       try clear hcz48_5
       try clear hcz48_6
       try clear hcz48_7
       try clear hcz48_8
       try clear hcz55_0
       try clear hcz55_1
       try clear hcz55_2
       try clear hcz55_3
       try clear hcz55_4
       try clear hcz55_5
       try clear hcz55_6
       try clear hcz55_7
       try clear hcz55_8
       try clear hcz57_0
       try clear hcz57_1
       try clear hcz57_2
       try clear hcz57_3
       try clear hcz57_4
       try clear hcz57_5
       try clear hcz57_6
       try clear hcz57_7
       try clear hcz57_8
       try clear hcz61_0
       try clear hcz61_1
       try clear hcz61_2
       try clear hcz61_3
       try clear hcz61_4
       try clear hcz61_5
       try clear hcz61_6
       try clear hcz61_7
       try clear hcz61_8
       try clear hcz63_0
       try clear hcz63_1
       try clear hcz63_2
       try clear hcz63_3
       try clear hcz63_4
       try clear hcz63_5
       try clear hcz63_6
       try clear hcz63_7
       try clear hcz63_8
       try clear hcz8_0
       try clear hcz8_1
       try clear hcz8_2
       try clear hcz8_3
       try clear hcz8_4
       try clear hcz8_5
       try clear hcz8_6
       try clear hcz8_7
       try clear hcz8_8
       try clear hfz14_0
       try clear hfz14_1
       try clear hfz14_2
       try clear hfz14_3
       try clear hfz14_4
       try clear hfz14_5
       try clear hfz14_6
       try clear hfz14_7
       try clear hfz14_8
       try clear hfz20_0
       try clear hfz20_1
       try clear hfz20_2
       try clear hfz20_3
       try clear hfz20_4
       try clear hfz20_5
       try clear hfz20_6
       try clear hfz20_7
       try clear hfz20_8
       try clear hfz21_0
       try clear hfz21_1
       try clear hfz21_2
       try clear hfz21_3
       try clear hfz21_4
       try clear hfz21_5
       try clear hfz21_6
       try clear hfz21_7
       try clear hfz21_8
       try clear hfz24_0
       try clear hfz24_1
       try clear hfz24_2
       try clear hfz24_3
       try clear hfz24_4
       try clear hfz24_5
       try clear hfz24_6
       try clear hfz24_7
       try clear hfz24_8
       try clear hfz25_0
       try clear hfz25_1
       try clear hfz25_2
       try clear hfz25_3
       try clear hfz25_4
       try clear hfz25_5
       try clear hfz25_6
       try clear hfz25_7
       try clear hfz25_8
       try clear hfz32_0
       try clear hfz32_1
       try clear hfz32_2
       try clear hfz32_3
       try clear hfz32_4
       try clear hfz32_5
       try clear hfz32_6
       try clear hfz32_7
       try clear hfz32_8
       try clear hfz34_0
       try clear hfz34_1
       try clear hfz34_2
       try clear hfz34_3
       try clear hfz34_4
       try clear hfz34_5
       try clear hfz34_6
       try clear hfz34_7
       try clear hfz34_8
       try clear hfz40_0
       try clear hfz40_1
       try clear hfz40_2
       try clear hfz40_3
       try clear hfz40_4
       try clear hfz40_5
       try clear hfz40_6
       try clear hfz40_7
       try clear hfz40_8
       try clear hfz42_0
       try clear hfz42_1
       try clear hfz42_2
       try clear hfz42_3
       try clear hfz42_4
       try clear hfz42_5
       try clear hfz42_6
       try clear hfz42_7
       try clear hfz42_8
       try clear hfz48_0
       try clear hfz48_1
       try clear hfz48_2
       try clear hfz48_3
       try clear hfz48_4
       try clear hfz48_5
       try clear hfz48_6
       try clear hfz48_7
       try clear hfz48_8
       try clear hfz55_0
       try clear hfz55_1
       try clear hfz55_2
       try clear hfz55_3
       try clear hfz55_4
       try clear hfz55_5
       try clear hfz55_6
       try clear hfz55_7
       try clear hfz55_8
       try clear hfz57_0
       try clear hfz57_1
       try clear hfz57_2
       try clear hfz57_3
       try clear hfz57_4
       try clear hfz57_5
       try clear hfz57_6
       try clear hfz57_7
       try clear hfz57_8
       try clear hfz61_0
       try clear hfz61_1
       try clear hfz61_2
       try clear hfz61_3
       try clear hfz61_4
       try clear hfz61_5
       try clear hfz61_6
       try clear hfz61_7
       try clear hfz61_8
       try clear hfz63_0
       try clear hfz63_1
       try clear hfz63_2
       try clear hfz63_3
       try clear hfz63_4
       try clear hfz63_5
       try clear hfz63_6
       try clear hfz63_7
       try clear hfz63_8
       try clear hfz8_0
       try clear hfz8_1
       try clear hfz8_2
       try clear hfz8_3
       try clear hfz8_4
       try clear hfz8_5
       try clear hfz8_6
       try clear hfz8_7
       try clear hfz8_8
       try clear p2
       obtain ⟨kq, x59_37, rfl, HA, HJ37, HO_819005, HO_819006, HO_834005, HO_834006, HO_854005, HO_854006, BK818, BK833, BK853, HB⟩ := hcut
       have hl834005_37 := (Kd.R_reads' HO_834005.out).1
       rw [hl834005_37] at HO_834005
       (try simp only [hl834005_37])
       (try simp only [hl834005_37] at BK818)
       (try simp only [hl834005_37] at BK833)
       (try simp only [hl834005_37] at BK853)
       (try simp only [hl834005_37] at HO_819005)
       (try simp only [hl834005_37] at HO_819006)
       (try simp only [hl834005_37] at HO_834006)
       (try simp only [hl834005_37] at HO_854005)
       (try simp only [hl834005_37] at HO_854006)
       have hl834006_37 := (Kd.R_reads' HO_834006.out).1
       rw [hl834006_37] at HO_834006
       (try simp only [hl834006_37])
       (try simp only [hl834006_37] at BK818)
       (try simp only [hl834006_37] at BK833)
       (try simp only [hl834006_37] at BK853)
       (try simp only [hl834006_37] at HO_819005)
       (try simp only [hl834006_37] at HO_819006)
       (try simp only [hl834006_37] at HO_834005)
       (try simp only [hl834006_37] at HO_854005)
       (try simp only [hl834006_37] at HO_854006)
       cases kq with
       | zero => exact absurd HA.out (by simp [laws_FnExactNewSession.j1])
       | succ kj37 =>
        have H := HA.out
        clear HA
        simp only [laws_FnExactNewSession.j1] at H
        by_cases c65 : x59_37 = true
        ·subst c65
         have H1 : (some false) = some r := by rw [if_pos rfl] at H; exact H
         clear H
         have H := H1
         clear H1
         obtain rfl := Option.some.inj H
         go_wp2
         go_ret
         exact ⟨by first | rfl | (simp [errW_none, errW_some] <;> rfl) | (simp [*, errW_none, errW_some] <;> rfl), by repeat (first | (with_reducible first | exact HB.out | apply below_alloc | apply pw_below_drewN | apply below_drew1 | refine below_set ?_ GE818.out | refine below_set ?_ GE833.out | refine below_set ?_ GE853.out) | exact HB.out)⟩
        ·replace c65 := Bool.eq_false_iff.mpr c65
         subst c65
         have H1 : ((laws_heldSession.f kj37 t819 t820 t821 t822 t823 t836 t837 t830 t831 1).bind fun t855 => (if t855 < 0 then (some false) else (if t855 = t835 then (some true) else (some false)))) = some r := by rw [if_neg (show ¬ (false = true) by decide)] at H; exact H
         clear H
         have H := H1
         clear H1
         replace H := Option.bind_eq_some_iff.mp H
         obtain ⟨t855, A660, H⟩ := H
         replace H : (if t855 < 0 then (some false) else (if t855 = t835 then (some true) else (some false))) = some r := H
         have A66 := Aside0.mk A660
         clear A660
         by_cases c67 : t855 < 0
         ·rw [if_pos c67] at H
          have c67b0 : decide (t855 < 0) = true := decide_eq_true c67
          clear c67
          obtain rfl := Option.some.inj H
          have hnb68 := NB833_818.out
          have hnc68 := NB818_833.out
          have hnb69 := NB833_853.out
          have hnc69 := NB853_833.out
          have hcz70_0 : wc.cell? ⟨gb833, 0, none⟩ = some (.int .i64 t819) := (blk_cell BK833.out 0).trans rfl
          have hcz70_1 : wc.cell? ⟨gb833, 1, none⟩ = some (.int .i64 t820) := (blk_cell BK833.out 1).trans rfl
          have hcz70_2 : wc.cell? ⟨gb833, 2, none⟩ = some (.int .i64 t821) := (blk_cell BK833.out 2).trans rfl
          have hcz70_3 : wc.cell? ⟨gb833, 3, none⟩ = some (.string t822) := (blk_cell BK833.out 3).trans rfl
          have hcz70_4 : wc.cell? ⟨gb833, 4, none⟩ = some (.int .i64 t823) := (blk_cell BK833.out 4).trans rfl
          have hcz70_5 : wc.cell? ⟨gb833, 5, none⟩ = some (.slice Ao15 t836.length co15) := (blk_cell BK833.out 5).trans rfl
          have hcz70_6 : wc.cell? ⟨gb833, 6, none⟩ = some (.slice Ao16 t837.length co16) := (blk_cell BK833.out 6).trans rfl
          have hcz70_7 : wc.cell? ⟨gb833, 7, none⟩ = some (.int .i64 t830) := (blk_cell BK833.out 7).trans rfl
          have hcz70_8 : wc.cell? ⟨gb833, 8, none⟩ = some (.bool t831) := (blk_cell BK833.out 8).trans rfl
          have hfz70_0 := blk_frozen BK833.out 0
          have hfz70_1 := blk_frozen BK833.out 1
          have hfz70_2 := blk_frozen BK833.out 2
          have hfz70_3 := blk_frozen BK833.out 3
          have hfz70_4 := blk_frozen BK833.out 4
          have hfz70_5 := blk_frozen BK833.out 5
          have hfz70_6 := blk_frozen BK833.out 6
          have hfz70_7 := blk_frozen BK833.out 7
          have hfz70_8 := blk_frozen BK833.out 8
          go_wp2_with (first | ((with_reducible refine gate_callee (f := 53) rfl ?_); refine goesL_ (some 62) rfl rfl Try.func53 (by kernel_rfl) rfl #[.agg #[.int .i64 t819, .int .i64 t820, .int .i64 t821, .string t822, .int .i64 t823, .slice Ao15 t836.length co15, .slice Ao16 t837.length co16, .int .i64 t830, .bool t831], .int .i64 1] rfl (by (try simp only [List.map_toArray, List.map_cons, List.map_nil]); first | done | rfl | (simp only [List.length_drop, List.length_take]; rfl)) ?_; (with_reducible refine (laws_heldSession.calls kj37 t819 t820 t821 t822 t823 _ _ t836 _ _ t837 t830 t831 1 t855 _ ?side1 ?side2 ?side3 ?side4 A66.out).mono ?_); (case side1 => repeat (first | exact (Kd.R_reads' HO_834005.out).2.2 | (with_reducible refine Kd.C_alloc ?_ _) | (with_reducible refine Kd.C_drewN ?_ _) | (with_reducible refine Kd.C_drew ?_))); (case side2 => exact (Kd.R_reads' HO_834005.out).2.1); (case side3 => repeat (first | exact (Kd.R_reads' HO_834006.out).2.2 | (with_reducible refine Kd.C_alloc ?_ _) | (with_reducible refine Kd.C_drewN ?_ _) | (with_reducible refine Kd.C_drew ?_))); (case side4 => exact (Kd.R_reads' HO_834006.out).2.1); rintro e w71 ⟨rfl, hb⟩; refine ⟨_, rfl, ?_⟩; have n0_ := Aside0.mk (Kd.R_below (by (with_reducible repeat (first | apply Kd.R_alloc | apply Kd.R_drewN | apply Kd.R_drew)); exact HO_819005.out) hb); have n1_ := Aside0.mk (Kd.R_below (by (with_reducible repeat (first | apply Kd.R_alloc | apply Kd.R_drewN | apply Kd.R_drew)); exact HO_819006.out) hb); have n2_ := Aside0.mk (Kd.R_below (by (with_reducible repeat (first | apply Kd.R_alloc | apply Kd.R_drewN | apply Kd.R_drew)); exact HO_834005.out) hb); have n3_ := Aside0.mk (Kd.R_below (by (with_reducible repeat (first | apply Kd.R_alloc | apply Kd.R_drewN | apply Kd.R_drew)); exact HO_834006.out) hb); have n4_ := Aside0.mk (Kd.R_below (by (with_reducible repeat (first | apply Kd.R_alloc | apply Kd.R_drewN | apply Kd.R_drew)); exact HO_854005.out) hb); have n5_ := Aside0.mk (Kd.R_below (by (with_reducible repeat (first | apply Kd.R_alloc | apply Kd.R_drewN | apply Kd.R_drew)); exact HO_854006.out) hb); have n6_ := Aside0.mk (blk_below (g := gb818) (o := .cells #[.int .i64 t804, .int .i64 t805, .int .i64 t806, .string t807, .int .i64 t808, .slice Ao9 t809.length co9, .slice Ao10 t812.length co10, .int .i64 t815, .bool t816] 70 (0, 0)) (by (with_reducible repeat (first | refine blk_drewN ?_ _ | refine blk_drew ?_ | refine blk_alloc ?_ _)); exact BK818.out) hb); have n7_ := Aside0.mk (blk_below (g := gb833) (o := .cells #[.int .i64 t819, .int .i64 t820, .int .i64 t821, .string t822, .int .i64 t823, .slice Ao15 t836.length co15, .slice Ao16 t837.length co16, .int .i64 t830, .bool t831] 70 (0, 0)) (by (with_reducible repeat (first | refine blk_drewN ?_ _ | refine blk_drew ?_ | refine blk_alloc ?_ _)); exact BK833.out) hb); have n8_ := Aside0.mk (blk_below (g := gb853) (o := .cells #[.int .i64 t839, .int .i64 t840, .int .i64 t841, .string t842, .int .i64 t843, .slice Ao49 t844.length co49, .slice Ao50 t847.length co50, .int .i64 t850, .bool t851] 70 (0, 0)) (by (with_reducible repeat (first | refine blk_drewN ?_ _ | refine blk_drew ?_ | refine blk_alloc ?_ _)); exact BK853.out) hb); have n9_ := Aside0.mk (below_step (by repeat (first | (with_reducible first | exact HB.out | apply below_alloc | apply pw_below_drewN | apply below_drew1 | refine below_set ?_ GE818.out | refine below_set ?_ GE833.out | refine below_set ?_ GE853.out) | exact HB.out)) hb); clear HO_819005; clear HO_819006; clear HO_834005; clear HO_834006; clear HO_854005; clear HO_854006; clear BK818; clear BK833; clear BK853; clear HB; have HO_819005 := n0_; have HO_819006 := n1_; have HO_834005 := n2_; have HO_834006 := n3_; have HO_854005 := n4_; have HO_854006 := n5_; have BK818 := n6_; have BK833 := n7_; have BK853 := n8_; have HB := n9_; clear n0_ n1_ n2_ n3_ n4_ n5_ n6_ n7_ n8_ n9_; (try clear hb); (try clear hb2); (try clear hk); (try clear hi)))
          go_ret
          exact ⟨by first | rfl | (simp [errW_none, errW_some] <;> rfl) | (simp [*, errW_none, errW_some] <;> rfl), by repeat (first | (with_reducible first | exact HB.out | apply below_alloc | apply pw_below_drewN | apply below_drew1 | refine below_set ?_ GE818.out | refine below_set ?_ GE833.out | refine below_set ?_ GE853.out) | exact HB.out)⟩
         ·rw [if_neg c67] at H
          have c67b0 : decide (t855 < 0) = false := decide_eq_false c67
          clear c67
          by_cases c72 : t855 = t835
          ·rw [if_pos c72] at H
           have c72b0 : (t855 == t835) = true := beq_iff_eq.mpr c72
           have c72b1 : (t855 != t835) = false := bne_eq_false_iff_eq.mpr c72
           clear c72
           obtain rfl := Option.some.inj H
           have hnb73 := NB833_818.out
           have hnc73 := NB818_833.out
           have hnb74 := NB833_853.out
           have hnc74 := NB853_833.out
           have hcz75_0 : wc.cell? ⟨gb833, 0, none⟩ = some (.int .i64 t819) := (blk_cell BK833.out 0).trans rfl
           have hcz75_1 : wc.cell? ⟨gb833, 1, none⟩ = some (.int .i64 t820) := (blk_cell BK833.out 1).trans rfl
           have hcz75_2 : wc.cell? ⟨gb833, 2, none⟩ = some (.int .i64 t821) := (blk_cell BK833.out 2).trans rfl
           have hcz75_3 : wc.cell? ⟨gb833, 3, none⟩ = some (.string t822) := (blk_cell BK833.out 3).trans rfl
           have hcz75_4 : wc.cell? ⟨gb833, 4, none⟩ = some (.int .i64 t823) := (blk_cell BK833.out 4).trans rfl
           have hcz75_5 : wc.cell? ⟨gb833, 5, none⟩ = some (.slice Ao15 t836.length co15) := (blk_cell BK833.out 5).trans rfl
           have hcz75_6 : wc.cell? ⟨gb833, 6, none⟩ = some (.slice Ao16 t837.length co16) := (blk_cell BK833.out 6).trans rfl
           have hcz75_7 : wc.cell? ⟨gb833, 7, none⟩ = some (.int .i64 t830) := (blk_cell BK833.out 7).trans rfl
           have hcz75_8 : wc.cell? ⟨gb833, 8, none⟩ = some (.bool t831) := (blk_cell BK833.out 8).trans rfl
           have hfz75_0 := blk_frozen BK833.out 0
           have hfz75_1 := blk_frozen BK833.out 1
           have hfz75_2 := blk_frozen BK833.out 2
           have hfz75_3 := blk_frozen BK833.out 3
           have hfz75_4 := blk_frozen BK833.out 4
           have hfz75_5 := blk_frozen BK833.out 5
           have hfz75_6 := blk_frozen BK833.out 6
           have hfz75_7 := blk_frozen BK833.out 7
           have hfz75_8 := blk_frozen BK833.out 8
           go_wp2_with (first | ((with_reducible refine gate_callee (f := 53) rfl ?_); refine goesL_ (some 62) rfl rfl Try.func53 (by kernel_rfl) rfl #[.agg #[.int .i64 t819, .int .i64 t820, .int .i64 t821, .string t822, .int .i64 t823, .slice Ao15 t836.length co15, .slice Ao16 t837.length co16, .int .i64 t830, .bool t831], .int .i64 1] rfl (by (try simp only [List.map_toArray, List.map_cons, List.map_nil]); first | done | rfl | (simp only [List.length_drop, List.length_take]; rfl)) ?_; (with_reducible refine (laws_heldSession.calls kj37 t819 t820 t821 t822 t823 _ _ t836 _ _ t837 t830 t831 1 t855 _ ?side1 ?side2 ?side3 ?side4 A66.out).mono ?_); (case side1 => repeat (first | exact (Kd.R_reads' HO_834005.out).2.2 | (with_reducible refine Kd.C_alloc ?_ _) | (with_reducible refine Kd.C_drewN ?_ _) | (with_reducible refine Kd.C_drew ?_))); (case side2 => exact (Kd.R_reads' HO_834005.out).2.1); (case side3 => repeat (first | exact (Kd.R_reads' HO_834006.out).2.2 | (with_reducible refine Kd.C_alloc ?_ _) | (with_reducible refine Kd.C_drewN ?_ _) | (with_reducible refine Kd.C_drew ?_))); (case side4 => exact (Kd.R_reads' HO_834006.out).2.1); rintro e w76 ⟨rfl, hb⟩; refine ⟨_, rfl, ?_⟩; have n0_ := Aside0.mk (Kd.R_below (by (with_reducible repeat (first | apply Kd.R_alloc | apply Kd.R_drewN | apply Kd.R_drew)); exact HO_819005.out) hb); have n1_ := Aside0.mk (Kd.R_below (by (with_reducible repeat (first | apply Kd.R_alloc | apply Kd.R_drewN | apply Kd.R_drew)); exact HO_819006.out) hb); have n2_ := Aside0.mk (Kd.R_below (by (with_reducible repeat (first | apply Kd.R_alloc | apply Kd.R_drewN | apply Kd.R_drew)); exact HO_834005.out) hb); have n3_ := Aside0.mk (Kd.R_below (by (with_reducible repeat (first | apply Kd.R_alloc | apply Kd.R_drewN | apply Kd.R_drew)); exact HO_834006.out) hb); have n4_ := Aside0.mk (Kd.R_below (by (with_reducible repeat (first | apply Kd.R_alloc | apply Kd.R_drewN | apply Kd.R_drew)); exact HO_854005.out) hb); have n5_ := Aside0.mk (Kd.R_below (by (with_reducible repeat (first | apply Kd.R_alloc | apply Kd.R_drewN | apply Kd.R_drew)); exact HO_854006.out) hb); have n6_ := Aside0.mk (blk_below (g := gb818) (o := .cells #[.int .i64 t804, .int .i64 t805, .int .i64 t806, .string t807, .int .i64 t808, .slice Ao9 t809.length co9, .slice Ao10 t812.length co10, .int .i64 t815, .bool t816] 70 (0, 0)) (by (with_reducible repeat (first | refine blk_drewN ?_ _ | refine blk_drew ?_ | refine blk_alloc ?_ _)); exact BK818.out) hb); have n7_ := Aside0.mk (blk_below (g := gb833) (o := .cells #[.int .i64 t819, .int .i64 t820, .int .i64 t821, .string t822, .int .i64 t823, .slice Ao15 t836.length co15, .slice Ao16 t837.length co16, .int .i64 t830, .bool t831] 70 (0, 0)) (by (with_reducible repeat (first | refine blk_drewN ?_ _ | refine blk_drew ?_ | refine blk_alloc ?_ _)); exact BK833.out) hb); have n8_ := Aside0.mk (blk_below (g := gb853) (o := .cells #[.int .i64 t839, .int .i64 t840, .int .i64 t841, .string t842, .int .i64 t843, .slice Ao49 t844.length co49, .slice Ao50 t847.length co50, .int .i64 t850, .bool t851] 70 (0, 0)) (by (with_reducible repeat (first | refine blk_drewN ?_ _ | refine blk_drew ?_ | refine blk_alloc ?_ _)); exact BK853.out) hb); have n9_ := Aside0.mk (below_step (by repeat (first | (with_reducible first | exact HB.out | apply below_alloc | apply pw_below_drewN | apply below_drew1 | refine below_set ?_ GE818.out | refine below_set ?_ GE833.out | refine below_set ?_ GE853.out) | exact HB.out)) hb); clear HO_819005; clear HO_819006; clear HO_834005; clear HO_834006; clear HO_854005; clear HO_854006; clear BK818; clear BK833; clear BK853; clear HB; have HO_819005 := n0_; have HO_819006 := n1_; have HO_834005 := n2_; have HO_834006 := n3_; have HO_854005 := n4_; have HO_854006 := n5_; have BK818 := n6_; have BK833 := n7_; have BK853 := n8_; have HB := n9_; clear n0_ n1_ n2_ n3_ n4_ n5_ n6_ n7_ n8_ n9_; (try clear hb); (try clear hb2); (try clear hk); (try clear hi)))
           go_ret
           exact ⟨by first | rfl | (simp [errW_none, errW_some] <;> rfl) | (simp [*, errW_none, errW_some] <;> rfl), by repeat (first | (with_reducible first | exact HB.out | apply below_alloc | apply pw_below_drewN | apply below_drew1 | refine below_set ?_ GE818.out | refine below_set ?_ GE833.out | refine below_set ?_ GE853.out) | exact HB.out)⟩
          ·rw [if_neg c72] at H
           have c72b0 : (t855 == t835) = false := beq_eq_false_iff_ne.mpr c72
           have c72b1 : (t855 != t835) = true := bne_iff_ne.mpr c72
           obtain rfl := Option.some.inj H
           have hnb77 := NB833_818.out
           have hnc77 := NB818_833.out
           have hnb78 := NB833_853.out
           have hnc78 := NB853_833.out
           have hcz79_0 : wc.cell? ⟨gb833, 0, none⟩ = some (.int .i64 t819) := (blk_cell BK833.out 0).trans rfl
           have hcz79_1 : wc.cell? ⟨gb833, 1, none⟩ = some (.int .i64 t820) := (blk_cell BK833.out 1).trans rfl
           have hcz79_2 : wc.cell? ⟨gb833, 2, none⟩ = some (.int .i64 t821) := (blk_cell BK833.out 2).trans rfl
           have hcz79_3 : wc.cell? ⟨gb833, 3, none⟩ = some (.string t822) := (blk_cell BK833.out 3).trans rfl
           have hcz79_4 : wc.cell? ⟨gb833, 4, none⟩ = some (.int .i64 t823) := (blk_cell BK833.out 4).trans rfl
           have hcz79_5 : wc.cell? ⟨gb833, 5, none⟩ = some (.slice Ao15 t836.length co15) := (blk_cell BK833.out 5).trans rfl
           have hcz79_6 : wc.cell? ⟨gb833, 6, none⟩ = some (.slice Ao16 t837.length co16) := (blk_cell BK833.out 6).trans rfl
           have hcz79_7 : wc.cell? ⟨gb833, 7, none⟩ = some (.int .i64 t830) := (blk_cell BK833.out 7).trans rfl
           have hcz79_8 : wc.cell? ⟨gb833, 8, none⟩ = some (.bool t831) := (blk_cell BK833.out 8).trans rfl
           have hfz79_0 := blk_frozen BK833.out 0
           have hfz79_1 := blk_frozen BK833.out 1
           have hfz79_2 := blk_frozen BK833.out 2
           have hfz79_3 := blk_frozen BK833.out 3
           have hfz79_4 := blk_frozen BK833.out 4
           have hfz79_5 := blk_frozen BK833.out 5
           have hfz79_6 := blk_frozen BK833.out 6
           have hfz79_7 := blk_frozen BK833.out 7
           have hfz79_8 := blk_frozen BK833.out 8
           go_wp2_with (first | ((with_reducible refine gate_callee (f := 53) rfl ?_); refine goesL_ (some 62) rfl rfl Try.func53 (by kernel_rfl) rfl #[.agg #[.int .i64 t819, .int .i64 t820, .int .i64 t821, .string t822, .int .i64 t823, .slice Ao15 t836.length co15, .slice Ao16 t837.length co16, .int .i64 t830, .bool t831], .int .i64 1] rfl (by (try simp only [List.map_toArray, List.map_cons, List.map_nil]); first | done | rfl | (simp only [List.length_drop, List.length_take]; rfl)) ?_; (with_reducible refine (laws_heldSession.calls kj37 t819 t820 t821 t822 t823 _ _ t836 _ _ t837 t830 t831 1 t855 _ ?side1 ?side2 ?side3 ?side4 A66.out).mono ?_); (case side1 => repeat (first | exact (Kd.R_reads' HO_834005.out).2.2 | (with_reducible refine Kd.C_alloc ?_ _) | (with_reducible refine Kd.C_drewN ?_ _) | (with_reducible refine Kd.C_drew ?_))); (case side2 => exact (Kd.R_reads' HO_834005.out).2.1); (case side3 => repeat (first | exact (Kd.R_reads' HO_834006.out).2.2 | (with_reducible refine Kd.C_alloc ?_ _) | (with_reducible refine Kd.C_drewN ?_ _) | (with_reducible refine Kd.C_drew ?_))); (case side4 => exact (Kd.R_reads' HO_834006.out).2.1); rintro e w80 ⟨rfl, hb⟩; refine ⟨_, rfl, ?_⟩; have n0_ := Aside0.mk (Kd.R_below (by (with_reducible repeat (first | apply Kd.R_alloc | apply Kd.R_drewN | apply Kd.R_drew)); exact HO_819005.out) hb); have n1_ := Aside0.mk (Kd.R_below (by (with_reducible repeat (first | apply Kd.R_alloc | apply Kd.R_drewN | apply Kd.R_drew)); exact HO_819006.out) hb); have n2_ := Aside0.mk (Kd.R_below (by (with_reducible repeat (first | apply Kd.R_alloc | apply Kd.R_drewN | apply Kd.R_drew)); exact HO_834005.out) hb); have n3_ := Aside0.mk (Kd.R_below (by (with_reducible repeat (first | apply Kd.R_alloc | apply Kd.R_drewN | apply Kd.R_drew)); exact HO_834006.out) hb); have n4_ := Aside0.mk (Kd.R_below (by (with_reducible repeat (first | apply Kd.R_alloc | apply Kd.R_drewN | apply Kd.R_drew)); exact HO_854005.out) hb); have n5_ := Aside0.mk (Kd.R_below (by (with_reducible repeat (first | apply Kd.R_alloc | apply Kd.R_drewN | apply Kd.R_drew)); exact HO_854006.out) hb); have n6_ := Aside0.mk (blk_below (g := gb818) (o := .cells #[.int .i64 t804, .int .i64 t805, .int .i64 t806, .string t807, .int .i64 t808, .slice Ao9 t809.length co9, .slice Ao10 t812.length co10, .int .i64 t815, .bool t816] 70 (0, 0)) (by (with_reducible repeat (first | refine blk_drewN ?_ _ | refine blk_drew ?_ | refine blk_alloc ?_ _)); exact BK818.out) hb); have n7_ := Aside0.mk (blk_below (g := gb833) (o := .cells #[.int .i64 t819, .int .i64 t820, .int .i64 t821, .string t822, .int .i64 t823, .slice Ao15 t836.length co15, .slice Ao16 t837.length co16, .int .i64 t830, .bool t831] 70 (0, 0)) (by (with_reducible repeat (first | refine blk_drewN ?_ _ | refine blk_drew ?_ | refine blk_alloc ?_ _)); exact BK833.out) hb); have n8_ := Aside0.mk (blk_below (g := gb853) (o := .cells #[.int .i64 t839, .int .i64 t840, .int .i64 t841, .string t842, .int .i64 t843, .slice Ao49 t844.length co49, .slice Ao50 t847.length co50, .int .i64 t850, .bool t851] 70 (0, 0)) (by (with_reducible repeat (first | refine blk_drewN ?_ _ | refine blk_drew ?_ | refine blk_alloc ?_ _)); exact BK853.out) hb); have n9_ := Aside0.mk (below_step (by repeat (first | (with_reducible first | exact HB.out | apply below_alloc | apply pw_below_drewN | apply below_drew1 | refine below_set ?_ GE818.out | refine below_set ?_ GE833.out | refine below_set ?_ GE853.out) | exact HB.out)) hb); clear HO_819005; clear HO_819006; clear HO_834005; clear HO_834006; clear HO_854005; clear HO_854006; clear BK818; clear BK833; clear BK853; clear HB; have HO_819005 := n0_; have HO_819006 := n1_; have HO_834005 := n2_; have HO_834006 := n3_; have HO_854005 := n4_; have HO_854006 := n5_; have BK818 := n6_; have BK833 := n7_; have BK853 := n8_; have HB := n9_; clear n0_ n1_ n2_ n3_ n4_ n5_ n6_ n7_ n8_ n9_; (try clear hb); (try clear hb2); (try clear hk); (try clear hi)))
           go_ret
           exact ⟨by first | rfl | (simp [errW_none, errW_some] <;> rfl) | (simp [*, errW_none, errW_some] <;> rfl), by repeat (first | (with_reducible first | exact HB.out | apply below_alloc | apply pw_below_drewN | apply below_drew1 | refine below_set ?_ GE818.out | refine below_set ?_ GE833.out | refine below_set ?_ GE853.out) | exact HB.out)⟩
     ·rw [if_neg c36] at H
      have c36b0 : (t838 == t835) = false := beq_eq_false_iff_ne.mpr c36
      have c36b1 : (t838 != t835) = true := bne_iff_ne.mpr c36
      obtain rfl := Option.some.inj H
      have hnb81 := NB833_818.out
      have hnc81 := NB818_833.out
      have hcz82_0 : wc.cell? ⟨gb833, 0, none⟩ = some (.int .i64 t819) := (blk_cell BK833.out 0).trans rfl
      have hcz82_1 : wc.cell? ⟨gb833, 1, none⟩ = some (.int .i64 t820) := (blk_cell BK833.out 1).trans rfl
      have hcz82_2 : wc.cell? ⟨gb833, 2, none⟩ = some (.int .i64 t821) := (blk_cell BK833.out 2).trans rfl
      have hcz82_3 : wc.cell? ⟨gb833, 3, none⟩ = some (.string t822) := (blk_cell BK833.out 3).trans rfl
      have hcz82_4 : wc.cell? ⟨gb833, 4, none⟩ = some (.int .i64 t823) := (blk_cell BK833.out 4).trans rfl
      have hcz82_5 : wc.cell? ⟨gb833, 5, none⟩ = some (.slice Ao15 t824.length co15) := (blk_cell BK833.out 5).trans rfl
      have hcz82_6 : wc.cell? ⟨gb833, 6, none⟩ = some (.slice Ao16 t827.length co16) := (blk_cell BK833.out 6).trans rfl
      have hcz82_7 : wc.cell? ⟨gb833, 7, none⟩ = some (.int .i64 t830) := (blk_cell BK833.out 7).trans rfl
      have hcz82_8 : wc.cell? ⟨gb833, 8, none⟩ = some (.bool t831) := (blk_cell BK833.out 8).trans rfl
      have hfz82_0 := blk_frozen BK833.out 0
      have hfz82_1 := blk_frozen BK833.out 1
      have hfz82_2 := blk_frozen BK833.out 2
      have hfz82_3 := blk_frozen BK833.out 3
      have hfz82_4 := blk_frozen BK833.out 4
      have hfz82_5 := blk_frozen BK833.out 5
      have hfz82_6 := blk_frozen BK833.out 6
      have hfz82_7 := blk_frozen BK833.out 7
      have hfz82_8 := blk_frozen BK833.out 8
      go_wp2_with (first | ((with_reducible refine gate_callee (f := 52) rfl ?_); refine goesL_ (some 36) rfl rfl Try.func52 (by kernel_rfl) rfl #[.agg #[.int .i64 t819, .int .i64 t820, .int .i64 t821, .string t822, .int .i64 t823, .slice Ao15 t824.length co15, .slice Ao16 t827.length co16, .int .i64 t830, .bool t831], .int .i64 1] rfl (by (try simp only [List.map_toArray, List.map_cons, List.map_nil]); first | done | rfl | (simp only [List.length_drop, List.length_take]; rfl)) ?_; (with_reducible refine (laws_markSession.calls kj4 t819 t820 t821 t822 t823 (fun k_ => some k_ = (.slice Ao15 t824.length co15 : Value).ownBlock) (.slice Ao15 t824.length co15) t824 (fun k_ => some k_ = (.slice Ao16 t827.length co16 : Value).ownBlock) (.slice Ao16 t827.length co16) t827 t830 t831 1 t835 t836 t837 w _ ?side1 ?side2 ?side3 ?side4 ?side5 A28.out).mono ?_); (case side1 => repeat (first | (with_reducible first | exact HB.out | apply below_alloc | apply pw_below_drewN | apply below_drew1 | refine below_set ?_ GE818.out | refine below_set ?_ GE833.out) | exact HB.out)); (case side2 => exact Kd.R_tight rfl HO_834005.out); (case side3 => exact fun k_ e_ => (HO_834005.out.1 k_ e_.symm).2.2); (case side4 => exact Kd.R_tight rfl HO_834006.out); (case side5 => exact fun k_ e_ => (HO_834006.out.1 k_ e_.symm).2.2); rintro e w83 ⟨rfl, hy0, hy1, hb, hkp⟩; refine ⟨_, rfl, ?_⟩; have n0_ := Aside0.mk (Kd.R_mono (ok' := fun k_ => some k_ ≠ (.slice Ao10 t812.length co10 : Value).ownBlock ∧ some k_ ≠ (.slice Ao15 t824.length co15 : Value).ownBlock ∧ some k_ ≠ (.slice Ao16 t827.length co16 : Value).ownBlock) (Kd.R_keptB (HO_819005.out) hkp (fun k_ hk_ hs_ => Or.elim hs_ (fun e_ => (hk_.2.1) e_) (fun e_ => (hk_.2.2) e_))) (fun k_ hk_ => ⟨hk_.1.1, hk_.1.2.1, hk_.1.2.2⟩)); have n1_ := Aside0.mk (Kd.R_mono (ok' := fun k_ => some k_ ≠ (.slice Ao9 t809.length co9 : Value).ownBlock ∧ some k_ ≠ (.slice Ao15 t824.length co15 : Value).ownBlock ∧ some k_ ≠ (.slice Ao16 t827.length co16 : Value).ownBlock) (Kd.R_keptB (HO_819006.out) hkp (fun k_ hk_ hs_ => Or.elim hs_ (fun e_ => (hk_.2.1) e_) (fun e_ => (hk_.2.2) e_))) (fun k_ hk_ => ⟨hk_.1.1, hk_.1.2.1, hk_.1.2.2⟩)); have n2_ := Aside0.mk (Kd.R_reok rfl hy0 (fun k_ e_ => HO_834005.out.1 k_ e_)); have n3_ := Aside0.mk (Kd.R_reok rfl hy1 (fun k_ e_ => HO_834006.out.1 k_ e_)); have n4_ := Aside0.mk (blk_kept (by (with_reducible repeat (first | refine blk_drewN ?_ _ | refine blk_drew ?_ | refine blk_alloc ?_ _)); exact BK818.out) hkp (fun hs_ => Or.elim hs_ (fun e_ => (fun e_ => (Kd.R_ne HO_834005.out BK818.out (by decide)) e_) e_) (fun e_ => (fun e_ => (Kd.R_ne HO_834006.out BK818.out (by decide)) e_) e_))); have n5_ := Aside0.mk (blk_kept (by (with_reducible repeat (first | refine blk_drewN ?_ _ | refine blk_drew ?_ | refine blk_alloc ?_ _)); exact BK833.out) hkp (fun hs_ => Or.elim hs_ (fun e_ => (fun e_ => (Kd.R_ne HO_834005.out BK833.out (by decide)) e_) e_) (fun e_ => (fun e_ => (Kd.R_ne HO_834006.out BK833.out (by decide)) e_) e_))); have n6_ := Aside0.mk (hb); clear HO_819005; clear HO_819006; clear HO_834005; clear HO_834006; clear BK818; clear BK833; clear HB; have HO_819005 := n0_; have HO_819006 := n1_; have HO_834005 := n2_; have HO_834006 := n3_; have BK818 := n4_; have BK833 := n5_; have HB := n6_; clear n0_ n1_ n2_ n3_ n4_ n5_ n6_; (try clear hb); (try clear hkp); (try clear hy0); (try clear hy1); have hcz84_0 : w83.cell? ⟨gb833, 0, none⟩ = some (.int .i64 t819) := (blk_cell BK833.out 0).trans rfl; have hcz84_1 : w83.cell? ⟨gb833, 1, none⟩ = some (.int .i64 t820) := (blk_cell BK833.out 1).trans rfl; have hcz84_2 : w83.cell? ⟨gb833, 2, none⟩ = some (.int .i64 t821) := (blk_cell BK833.out 2).trans rfl; have hcz84_3 : w83.cell? ⟨gb833, 3, none⟩ = some (.string t822) := (blk_cell BK833.out 3).trans rfl; have hcz84_4 : w83.cell? ⟨gb833, 4, none⟩ = some (.int .i64 t823) := (blk_cell BK833.out 4).trans rfl; have hcz84_5 : w83.cell? ⟨gb833, 5, none⟩ = some (.slice Ao15 t824.length co15) := (blk_cell BK833.out 5).trans rfl; have hcz84_6 : w83.cell? ⟨gb833, 6, none⟩ = some (.slice Ao16 t827.length co16) := (blk_cell BK833.out 6).trans rfl; have hcz84_7 : w83.cell? ⟨gb833, 7, none⟩ = some (.int .i64 t830) := (blk_cell BK833.out 7).trans rfl; have hcz84_8 : w83.cell? ⟨gb833, 8, none⟩ = some (.bool t831) := (blk_cell BK833.out 8).trans rfl; have hfz84_0 := blk_frozen BK833.out 0; have hfz84_1 := blk_frozen BK833.out 1; have hfz84_2 := blk_frozen BK833.out 2; have hfz84_3 := blk_frozen BK833.out 3; have hfz84_4 := blk_frozen BK833.out 4; have hfz84_5 := blk_frozen BK833.out 5; have hfz84_6 := blk_frozen BK833.out 6; have hfz84_7 := blk_frozen BK833.out 7; have hfz84_8 := blk_frozen BK833.out 8) | ((with_reducible refine gate_callee (f := 53) rfl ?_); refine goesL_ (some 39) rfl rfl Try.func53 (by kernel_rfl) rfl #[.agg #[.int .i64 t819, .int .i64 t820, .int .i64 t821, .string t822, .int .i64 t823, .slice Ao15 t836.length co15, .slice Ao16 t837.length co16, .int .i64 t830, .bool t831], .int .i64 1] rfl (by (try simp only [List.map_toArray, List.map_cons, List.map_nil]); first | done | (rw [show t836.length = t824.length from (Kd.R_reads' HO_834005.out).1.symm, show t837.length = t827.length from (Kd.R_reads' HO_834006.out).1.symm] <;> rfl) | rfl | (simp only [List.length_drop, List.length_take]; rfl)) ?_; (with_reducible refine (laws_heldSession.calls kj4 t819 t820 t821 t822 t823 _ _ t836 _ _ t837 t830 t831 1 t838 _ ?side1 ?side2 ?side3 ?side4 A29.out).mono ?_); (case side1 => repeat (first | exact (Kd.R_reads' HO_834005.out).2.2 | (with_reducible refine Kd.C_alloc ?_ _) | (with_reducible refine Kd.C_drewN ?_ _) | (with_reducible refine Kd.C_drew ?_))); (case side2 => rw [show t836.length = t824.length from (Kd.R_reads' HO_834005.out).1.symm]; exact (Kd.R_reads' HO_834005.out).2.1); (case side3 => repeat (first | exact (Kd.R_reads' HO_834006.out).2.2 | (with_reducible refine Kd.C_alloc ?_ _) | (with_reducible refine Kd.C_drewN ?_ _) | (with_reducible refine Kd.C_drew ?_))); (case side4 => rw [show t837.length = t827.length from (Kd.R_reads' HO_834006.out).1.symm]; exact (Kd.R_reads' HO_834006.out).2.1); rintro e w85 ⟨rfl, hb⟩; refine ⟨_, rfl, ?_⟩; have n0_ := Aside0.mk (Kd.R_below (by (with_reducible repeat (first | apply Kd.R_alloc | apply Kd.R_drewN | apply Kd.R_drew)); exact HO_819005.out) hb); have n1_ := Aside0.mk (Kd.R_below (by (with_reducible repeat (first | apply Kd.R_alloc | apply Kd.R_drewN | apply Kd.R_drew)); exact HO_819006.out) hb); have n2_ := Aside0.mk (Kd.R_below (by (with_reducible repeat (first | apply Kd.R_alloc | apply Kd.R_drewN | apply Kd.R_drew)); exact HO_834005.out) hb); have n3_ := Aside0.mk (Kd.R_below (by (with_reducible repeat (first | apply Kd.R_alloc | apply Kd.R_drewN | apply Kd.R_drew)); exact HO_834006.out) hb); have n4_ := Aside0.mk (blk_below (g := gb818) (o := .cells #[.int .i64 t804, .int .i64 t805, .int .i64 t806, .string t807, .int .i64 t808, .slice Ao9 t809.length co9, .slice Ao10 t812.length co10, .int .i64 t815, .bool t816] 70 (0, 0)) (by (with_reducible repeat (first | refine blk_drewN ?_ _ | refine blk_drew ?_ | refine blk_alloc ?_ _)); exact BK818.out) hb); have n5_ := Aside0.mk (blk_below (g := gb833) (o := .cells #[.int .i64 t819, .int .i64 t820, .int .i64 t821, .string t822, .int .i64 t823, .slice Ao15 t824.length co15, .slice Ao16 t827.length co16, .int .i64 t830, .bool t831] 70 (0, 0)) (by (with_reducible repeat (first | refine blk_drewN ?_ _ | refine blk_drew ?_ | refine blk_alloc ?_ _)); exact BK833.out) hb); have n6_ := Aside0.mk (below_step (by repeat (first | (with_reducible first | exact HB.out | apply below_alloc | apply pw_below_drewN | apply below_drew1 | refine below_set ?_ GE818.out | refine below_set ?_ GE833.out) | exact HB.out)) hb); clear HO_819005; clear HO_819006; clear HO_834005; clear HO_834006; clear BK818; clear BK833; clear HB; have HO_819005 := n0_; have HO_819006 := n1_; have HO_834005 := n2_; have HO_834006 := n3_; have BK818 := n4_; have BK833 := n5_; have HB := n6_; clear n0_ n1_ n2_ n3_ n4_ n5_ n6_; (try clear hb); (try clear hb2); (try clear hk); (try clear hi)))
      go_ret
      exact ⟨by first | rfl | (simp [errW_none, errW_some] <;> rfl) | (simp [*, errW_none, errW_some] <;> rfl), by repeat (first | (with_reducible first | exact HB.out | apply below_alloc | apply pw_below_drewN | apply below_drew1 | refine below_set ?_ GE818.out | refine below_set ?_ GE833.out) | exact HB.out)⟩


end Go.Proofs.Ytidimlopdgcklaa.P
