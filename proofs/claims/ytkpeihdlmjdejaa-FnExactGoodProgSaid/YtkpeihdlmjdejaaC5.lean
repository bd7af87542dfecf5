import Derived.Test.YtkpeihdlmjdejaaCP0
import Derived.Test.YtkpeihdlmjdejaaC1
import Derived.Test.YtkpeihdlmjdejaaC2
namespace Go.Proofs.Ytkpeihdlmjdejaa.P
open Go.RowKit Go.Proofs.YtkpeihdlmjdejaaW.PrintWords Go.Proofs.YtkpeihdlmjdejaaW.PrintLast Go.Proofs.YtkpeihdlmjdejaaW.PrintMore
attribute [local go_sem] max2_int min2_int max_two min_two max_three min_three max_four min_four   -- for this text's walks alone
set_option linter.unusedVariables false
set_option linter.unusedSimpArgs false


def impl_hasOf.j0 : Nat → Int → Bool → Option (Bool × Bool × Bool × Bool × Bool)
 | 0, _, _ => none
 | k + 1, x3, x10 => if x10 = true then (some (true, true, false, false, false)) else (if x3 = 5 then (some (true, true, true, false, false)) else (if x3 = 6 then (some (false, false, true, false, false)) else (some (false, false, false, false, false))))
def impl_hasOf.f (k : Nat) (a0 : Int) : Option (Bool × Bool × Bool × Bool × Bool) := if a0 = 1 then (some (false, false, false, true, false)) else (if a0 = 2 then (some (true, false, true, false, true)) else (if a0 = 3 then (impl_hasOf.j0 k a0 (a0 == 3)) else (impl_hasOf.j0 k a0 (a0 == 4))))
theorem impl_hasOf.mono_l : ∀ k, (∀ y0 y1, LeO (impl_hasOf.j0 k y0 y1) (impl_hasOf.j0 (k + 1) y0 y1))
 | 0 => fun _ _ r h => by simp [impl_hasOf.j0] at h
 | k + 1 => by
  have ih0 := impl_hasOf.mono_l k
  ·intro y0 y1
   unfold impl_hasOf.j0
   repeat' first
   | (with_reducible exact ih0 _ _)
   | (with_reducible exact LeO.refl _)
   | (with_reducible exact LeO.none _)
   | (with_reducible refine LeO.ite ?_ ?_)
   | (with_reducible refine LeO.bind ?_ (fun _ => ?_))
   | exact ih0 _ _
   | exact LeO.none _
   | refine LeO.ite ?_ ?_
   | refine LeO.bind ?_ (fun _ => ?_)
theorem impl_hasOf.mono : ∀ a0 k, LeO (impl_hasOf.f k a0) (impl_hasOf.f (k + 1) a0) := by
 intro a0 k
 have ih0 := impl_hasOf.mono_l k
 unfold impl_hasOf.f
 repeat' first
   | (with_reducible exact ih0 _ _)
   | (with_reducible exact LeO.refl _)
   | (with_reducible exact LeO.none _)
   | (with_reducible refine LeO.ite ?_ ?_)
   | (with_reducible refine LeO.bind ?_ (fun _ => ?_))
   | exact ih0 _ _
   | exact LeO.none _
   | refine LeO.ite ?_ ?_
   | refine LeO.bind ?_ (fun _ => ?_)
set_option maxHeartbeats 8000000 in
set_option maxRecDepth 100000 in
theorem impl_hasOf.calls (k : Nat) (a0 : Int) (r1 : Bool) (r2 : Bool) (r3 : Bool) (r4 : Bool) (r5 : Bool) (w : World) (h : impl_hasOf.f k a0 = some (r1, r2, r3, r4, r5)) :
  Calls Try.prog 133 #[.int .i64 a0] w fun e w' => e = .returned (.agg #[.bool r1, .bool r2, .bool r3, .bool r4, .bool r5]) ∧ Below w.heap.size w w' := by
 have hu153 := Try.underlying153
 have HB := Aside0.mk (Below.refl w.heap.size w)
 have H : (if a0 = 1 then (some (false, false, false, true, false)) else (if a0 = 2 then (some (true, false, true, false, true)) else (if a0 = 3 then (impl_hasOf.j0 k a0 (a0 == 3)) else (impl_hasOf.j0 k a0 (a0 == 4))))) = some (r1, r2, r3, r4, r5) := h
 clear h
 by_cases c2 : a0 = 1
 ·rw [if_pos c2] at H
  have c2b0 : (a0 == 1) = true := beq_iff_eq.mpr c2
  have c2b1 : (a0 != 1) = false := bne_eq_false_iff_eq.mpr c2
  clear c2
  simp only [Option.some.injEq, Prod.mk.injEq] at H
  obtain ⟨rfl, rfl, rfl, rfl, rfl⟩ := H
  go_enter Try.func133, Try.ntmps133
  go_wp2_with (first | ((with_reducible refine gate_dst (N := 2) rfl ?_); refine box_event ?hg (N := 2) ?hd (cs := #[.bool false, .bool false, .bool false, .bool false, .bool false]) (t := 153) ?hr ?_; (case hd => rfl); (case hg => rfl); (case hr => first | (go_simp; done) | (go_simp; rfl)); intro gb886 hg w3 hbox hb; have n0_ := Aside0.mk (below_step (by repeat (first | (with_reducible first | exact HB.out | apply below_alloc | apply pw_below_drewN | apply below_drew1) | exact HB.out)) hb); have n1_ := Aside0.mk (hbox); have n2_ := Aside0.mk ((by rw [hg]; exact (below_size (by repeat (first | (with_reducible first | exact HB.out | apply below_alloc | apply pw_below_drewN | apply below_drew1) | exact HB.out))) : w.heap.size ≤ gb886)); have n3_ := Aside0.mk ((by rw [hg]; exact (below_size (by repeat (first | (with_reducible first | exact HB.out | apply below_alloc | apply pw_below_drewN | apply below_drew1) | exact HB.out))) : w.heap.size ≤ gb886)); clear HB; have HB := n0_; have BK886 := n1_; have GW886 := n2_; have GE886 := n3_; clear n0_ n1_ n2_ n3_; clear hb hbox hg; have hcz4_0 : w3.cell? ⟨gb886, 0, none⟩ = some (.bool false) := (blk_cell BK886.out 0).trans rfl; have hcz4_1 : w3.cell? ⟨gb886, 1, none⟩ = some (.bool false) := (blk_cell BK886.out 1).trans rfl; have hcz4_2 : w3.cell? ⟨gb886, 2, none⟩ = some (.bool false) := (blk_cell BK886.out 2).trans rfl; have hcz4_3 : w3.cell? ⟨gb886, 3, none⟩ = some (.bool false) := (blk_cell BK886.out 3).trans rfl; have hcz4_4 : w3.cell? ⟨gb886, 4, none⟩ = some (.bool false) := (blk_cell BK886.out 4).trans rfl; have hfz4_0 := blk_frozen BK886.out 0; have hfz4_1 := blk_frozen BK886.out 1; have hfz4_2 := blk_frozen BK886.out 2; have hfz4_3 := blk_frozen BK886.out 3; have hfz4_4 := blk_frozen BK886.out 4))
  refine bodyPost_ret (results_cell_row rfl _ _ gb886 153 #[.bool false, .bool false, .bool false, .bool true, .bool false] (0, 0) _ rfl (by (with_reducible repeat (first | refine blk_drewN ?_ _ | refine blk_drew ?_ | refine blk_alloc ?_ _)); refine blk_put (cs := #[.bool false, .bool false, .bool false, .bool true, .bool false]) ?_ 4 _ rfl; (with_reducible repeat (first | refine blk_drewN ?_ _ | refine blk_drew ?_ | refine blk_alloc ?_ _)); refine blk_put (cs := #[.bool false, .bool false, .bool false, .bool false, .bool false]) ?_ 3 _ rfl; (with_reducible repeat (first | refine blk_drewN ?_ _ | refine blk_drew ?_ | refine blk_alloc ?_ _)); refine blk_put (cs := #[.bool false, .bool false, .bool false, .bool false, .bool false]) ?_ 2 _ rfl; (with_reducible repeat (first | refine blk_drewN ?_ _ | refine blk_drew ?_ | refine blk_alloc ?_ _)); refine blk_put (cs := #[.bool false, .bool false, .bool false, .bool false, .bool false]) ?_ 1 _ rfl; (with_reducible repeat (first | refine blk_drewN ?_ _ | refine blk_drew ?_ | refine blk_alloc ?_ _)); refine blk_put (cs := #[.bool false, .bool false, .bool false, .bool false, .bool false]) ?_ 0 _ rfl; (with_reducible repeat (first | refine blk_drewN ?_ _ | refine blk_drew ?_ | refine blk_alloc ?_ _)); exact BK886.out) Try.underlying153 rfl (by kernel_rfl)) rfl ?_
  exact ⟨by first | rfl | (simp [errW_none, errW_some] <;> rfl) | (simp [*, errW_none, errW_some] <;> rfl), by repeat (first | (with_reducible first | exact HB.out | apply below_alloc | apply pw_below_drewN | apply below_drew1 | refine below_set ?_ GE886.out) | exact HB.out)⟩
 ·rw [if_neg c2] at H
  have c2b0 : (a0 == 1) = false := beq_eq_false_iff_ne.mpr c2
  have c2b1 : (a0 != 1) = true := bne_iff_ne.mpr c2
  by_cases c5 : a0 = 2
  ·rw [if_pos c5] at H
   have c5b0 : (a0 == 2) = true := beq_iff_eq.mpr c5
   have c5b1 : (a0 != 2) = false := bne_eq_false_iff_eq.mpr c5
   clear c5
   simp only [Option.some.injEq, Prod.mk.injEq] at H
   obtain ⟨rfl, rfl, rfl, rfl, rfl⟩ := H
   go_enter Try.func133, Try.ntmps133
   go_wp2_with (first | ((with_reducible refine gate_dst (N := 2) rfl ?_); refine box_event ?hg (N := 2) ?hd (cs := #[.bool false, .bool false, .bool false, .bool false, .bool false]) (t := 153) ?hr ?_; (case hd => rfl); (case hg => rfl); (case hr => first | (go_simp; done) | (go_simp; rfl)); intro gb886 hg w6 hbox hb; have n0_ := Aside0.mk (below_step (by repeat (first | (with_reducible first | exact HB.out | apply below_alloc | apply pw_below_drewN | apply below_drew1) | exact HB.out)) hb); have n1_ := Aside0.mk (hbox); have n2_ := Aside0.mk ((by rw [hg]; exact (below_size (by repeat (first | (with_reducible first | exact HB.out | apply below_alloc | apply pw_below_drewN | apply below_drew1) | exact HB.out))) : w.heap.size ≤ gb886)); have n3_ := Aside0.mk ((by rw [hg]; exact (below_size (by repeat (first | (with_reducible first | exact HB.out | apply below_alloc | apply pw_below_drewN | apply below_drew1) | exact HB.out))) : w.heap.size ≤ gb886)); clear HB; have HB := n0_; have BK886 := n1_; have GW886 := n2_; have GE886 := n3_; clear n0_ n1_ n2_ n3_; clear hb hbox hg; have hcz7_0 : w6.cell? ⟨gb886, 0, none⟩ = some (.bool false) := (blk_cell BK886.out 0).trans rfl; have hcz7_1 : w6.cell? ⟨gb886, 1, none⟩ = some (.bool false) := (blk_cell BK886.out 1).trans rfl; have hcz7_2 : w6.cell? ⟨gb886, 2, none⟩ = some (.bool false) := (blk_cell BK886.out 2).trans rfl; have hcz7_3 : w6.cell? ⟨gb886, 3, none⟩ = some (.bool false) := (blk_cell BK886.out 3).trans rfl; have hcz7_4 : w6.cell? ⟨gb886, 4, none⟩ = some (.bool false) := (blk_cell BK886.out 4).trans rfl; have hfz7_0 := blk_frozen BK886.out 0; have hfz7_1 := blk_frozen BK886.out 1; have hfz7_2 := blk_frozen BK886.out 2; have hfz7_3 := blk_frozen BK886.out 3; have hfz7_4 := blk_frozen BK886.out 4))
   refine bodyPost_ret (results_cell_row rfl _ _ gb886 153 #[.bool true, .bool false, .bool true, .bool false, .bool true] (0, 0) _ rfl (by (with_reducible repeat (first | refine blk_drewN ?_ _ | refine blk_drew ?_ | refine blk_alloc ?_ _)); refine blk_put (cs := #[.bool true, .bool false, .bool true, .bool false, .bool false]) ?_ 4 _ rfl; (with_reducible repeat (first | refine blk_drewN ?_ _ | refine blk_drew ?_ | refine blk_alloc ?_ _)); refine blk_put (cs := #[.bool true, .bool false, .bool true, .bool false, .bool false]) ?_ 3 _ rfl; (with_reducible repeat (first | refine blk_drewN ?_ _ | refine blk_drew ?_ | refine blk_alloc ?_ _)); refine blk_put (cs := #[.bool true, .bool false, .bool false, .bool false, .bool false]) ?_ 2 _ rfl; (with_reducible repeat (first | refine blk_drewN ?_ _ | refine blk_drew ?_ | refine blk_alloc ?_ _)); refine blk_put (cs := #[.bool true, .bool false, .bool false, .bool false, .bool false]) ?_ 1 _ rfl; (with_reducible repeat (first | refine blk_drewN ?_ _ | refine blk_drew ?_ | refine blk_alloc ?_ _)); refine blk_put (cs := #[.bool false, .bool false, .bool false, .bool false, .bool false]) ?_ 0 _ rfl; (with_reducible repeat (first | refine blk_drewN ?_ _ | refine blk_drew ?_ | refine blk_alloc ?_ _)); exact BK886.out) Try.underlying153 rfl (by kernel_rfl)) rfl ?_
   exact ⟨by first | rfl | (simp [errW_none, errW_some] <;> rfl) | (simp [*, errW_none, errW_some] <;> rfl), by repeat (first | (with_reducible first | exact HB.out | apply below_alloc | apply pw_below_drewN | apply below_drew1 | refine below_set ?_ GE886.out) | exact HB.out)⟩
  ·rw [if_neg c5] at H
   have c5b0 : (a0 == 2) = false := beq_eq_false_iff_ne.mpr c5
   have c5b1 : (a0 != 2) = true := bne_iff_ne.mpr c5
   have HC8 := Aside0.mk H
   clear H
   go_enter Try.func133, Try.ntmps133
   go_upto_if 10 with (first | ((with_reducible refine gate_dst (N := 2) rfl ?_); refine box_event ?hg (N := 2) ?hd (cs := #[.bool false, .bool false, .bool false, .bool false, .bool false]) (t := 153) ?hr ?_; (case hd => rfl); (case hg => rfl); (case hr => first | (go_simp; done) | (go_simp; rfl)); intro gb886 hg w9 hbox hb; have n0_ := Aside0.mk (below_step (by repeat (first | (with_reducible first | exact HB.out | apply below_alloc | apply pw_below_drewN | apply below_drew1) | exact HB.out)) hb); have n1_ := Aside0.mk (hbox); have n2_ := Aside0.mk ((by rw [hg]; exact (below_size (by repeat (first | (with_reducible first | exact HB.out | apply below_alloc | apply pw_below_drewN | apply below_drew1) | exact HB.out))) : w.heap.size ≤ gb886)); have n3_ := Aside0.mk ((by rw [hg]; exact (below_size (by repeat (first | (with_reducible first | exact HB.out | apply below_alloc | apply pw_below_drewN | apply below_drew1) | exact HB.out))) : w.heap.size ≤ gb886)); clear HB; have HB := n0_; have BK886 := n1_; have GW886 := n2_; have GE886 := n3_; clear n0_ n1_ n2_ n3_; clear hb hbox hg))
   (try simp only [Act.put, List.setIfInBounds_toArray, List.set_cons_zero, List.set_cons_succ])
   go_cut [10] (fun v10 wc => ∃ (kq : Nat) (x10_7 : Bool), v10 = .bool x10_7 ∧ Aside0 (impl_hasOf.j0 kq a0 x10_7 = some (r1, r2, r3, r4, r5)) ∧ Aside0 (kq ≤ k) ∧ Aside0 (wc.heap[gb886]? = some (.cells #[.bool false, .bool false, .bool false, .bool false, .bool false] 153 (0, 0))) ∧ Aside0 (Below w.heap.size w wc))
   case first =>
    have H := HC8.out
    clear HC8
    by_cases c10 : a0 = 3
    ·rw [if_pos c10] at H
     have c10b0 : (a0 == 3) = true := beq_iff_eq.mpr c10
     have c10b1 : (a0 != 3) = false := bne_eq_false_iff_eq.mpr c10
     clear c10
     (first | rw [c10b0] | (simp only [i64_w, i32_w]; rw [c10b0]) | skip)
     have H' := Aside0.mk H
     clear H
     go_wp2
     go_meet
     case rel => exact ⟨_, ((a0 == 3)), (by first | rfl | (simp; done) | (simp [*]; done)), H', ⟨by first | omega | exact Nat.le_refl _⟩, ⟨by (with_reducible repeat (first | refine blk_drewN ?_ _ | refine blk_drew ?_ | refine blk_alloc ?_ _)); exact BK886.out⟩, ⟨by repeat (first | (with_reducible first | exact HB.out | apply below_alloc | apply pw_below_drewN | apply below_drew1 | refine below_set ?_ GE886.out) | exact HB.out)⟩⟩
    ·rw [if_neg c10] at H
     have c10b0 : (a0 == 3) = false := beq_eq_false_iff_ne.mpr c10
     have c10b1 : (a0 != 3) = true := bne_iff_ne.mpr c10
     (first | rw [c10b0] | (simp only [i64_w, i32_w]; rw [c10b0]) | skip)
     have H' := Aside0.mk H
     clear H
     go_wp2
     go_meet
     case rel => exact ⟨_, ((a0 == 4)), (by first | rfl | (simp; done) | (simp [*]; done)), H', ⟨by first | omega | exact Nat.le_refl _⟩, ⟨by (with_reducible repeat (first | refine blk_drewN ?_ _ | refine blk_drew ?_ | refine blk_alloc ?_ _)); exact BK886.out⟩, ⟨by repeat (first | (with_reducible first | exact HB.out | apply below_alloc | apply pw_below_drewN | apply below_drew1 | refine below_set ?_ GE886.out) | exact HB.out)⟩⟩
   case rest =>
    clear HC8
    try clear c1
    try clear c2
    try clear c2b0
    try clear c2b1
    try clear p2
    try clear c5
    try clear c5b0
    try clear c5b1
    try clear c10
    try clear c10b0
    try clear c10b1
    try clear hcz4_0
    try clear hcz4_1
    try clear hcz4_2
    try clear hcz4_3
    try clear hcz4_4
    try clear hcz7_0
    try clear hcz7_1
    try clear hcz7_2
    try clear hcz7_3
    try clear hcz7_4
    try clear hfz4_0
    try clear hfz4_1
    try clear hfz4_2
    try clear hfz4_3
    try clear hfz4_4
    try clear hfz7_0
    try clear hfz7_1
    try clear hfz7_2
    try clear hfz7_3
    try clear hfz7_4
    obtain ⟨kq, x10_7, rfl, HA, HJ7, BK886, HB⟩ := hcut
    cases kq with
    | zero => exact absurd HA.out (by simp [impl_hasOf.j0])
    | succ kj7 =>
     have H := HA.out
     clear HA
     simp only [impl_hasOf.j0] at H
     by_cases c11 : x10_7 = true
     ·subst c11
      have H1 : (some (true, true, false, false, false)) = some (r1, r2, r3, r4, r5) := by rw [if_pos rfl] at H; exact H
      clear H
      have H := H1
      clear H1
      simp only [Option.some.injEq, Prod.mk.injEq] at H
      obtain ⟨rfl, rfl, rfl, rfl, rfl⟩ := H
      have hcz12_0 : wc.cell? ⟨gb886, 0, none⟩ = some (.bool false) := (blk_cell BK886.out 0).trans rfl
      have hcz12_1 : wc.cell? ⟨gb886, 1, none⟩ = some (.bool false) := (blk_cell BK886.out 1).trans rfl
      have hcz12_2 : wc.cell? ⟨gb886, 2, none⟩ = some (.bool false) := (blk_cell BK886.out 2).trans rfl
      have hcz12_3 : wc.cell? ⟨gb886, 3, none⟩ = some (.bool false) := (blk_cell BK886.out 3).trans rfl
      have hcz12_4 : wc.cell? ⟨gb886, 4, none⟩ = some (.bool false) := (blk_cell BK886.out 4).trans rfl
      have hfz12_0 := blk_frozen BK886.out 0
      have hfz12_1 := blk_frozen BK886.out 1
      have hfz12_2 := blk_frozen BK886.out 2
      have hfz12_3 := blk_frozen BK886.out 3
      have hfz12_4 := blk_frozen BK886.out 4
      go_wp2
      refine bodyPost_ret (results_cell_row rfl _ _ gb886 153 #[.bool true, .bool true, .bool false, .bool false, .bool false] (0, 0) _ rfl (by (with_reducible repeat (first | refine blk_drewN ?_ _ | refine blk_drew ?_ | refine blk_alloc ?_ _)); refine blk_put (cs := #[.bool true, .bool true, .bool false, .bool false, .bool false]) ?_ 4 _ rfl; (with_reducible repeat (first | refine blk_drewN ?_ _ | refine blk_drew ?_ | refine blk_alloc ?_ _)); refine blk_put (cs := #[.bool true, .bool true, .bool false, .bool false, .bool false]) ?_ 3 _ rfl; (with_reducible repeat (first | refine blk_drewN ?_ _ | refine blk_drew ?_ | refine blk_alloc ?_ _)); refine blk_put (cs := #[.bool true, .bool true, .bool false, .bool false, .bool false]) ?_ 2 _ rfl; (with_reducible repeat (first | refine blk_drewN ?_ _ | refine blk_drew ?_ | refine blk_alloc ?_ _)); refine blk_put (cs := #[.bool true, .bool false, .bool false, .bool false, .bool false]) ?_ 1 _ rfl; (with_reducible repeat (first | refine blk_drewN ?_ _ | refine blk_drew ?_ | refine blk_alloc ?_ _)); refine blk_put (cs := #[.bool false, .bool false, .bool false, .bool false, .bool false]) ?_ 0 _ rfl; (with_reducible repeat (first | refine blk_drewN ?_ _ | refine blk_drew ?_ | refine blk_alloc ?_ _)); exact BK886.out) Try.underlying153 rfl (by kernel_rfl)) rfl ?_
      exact ⟨by first | rfl | (simp [errW_none, errW_some] <;> rfl) | (simp [*, errW_none, errW_some] <;> rfl), by repeat (first | (with_reducible first | exact HB.out | apply below_alloc | apply pw_below_drewN | apply below_drew1 | refine below_set ?_ GE886.out) | exact HB.out)⟩
     ·replace c11 := Bool.eq_false_iff.mpr c11
      subst c11
      have H1 : (if a0 = 5 then (some (true, true, true, false, false)) else (if a0 = 6 then (some (false, false, true, false, false)) else (some (false, false, false, false, false)))) = some (r1, r2, r3, r4, r5) := by rw [if_neg (show ¬ (false = true) by decide)] at H; exact H
      clear H
      have H := H1
      clear H1
      by_cases c13 : a0 = 5
      ·rw [if_pos c13] at H
       have c13b0 : (a0 == 5) = true := beq_iff_eq.mpr c13
       have c13b1 : (a0 != 5) = false := bne_eq_false_iff_eq.mpr c13
       clear c13
       simp only [Option.some.injEq, Prod.mk.injEq] at H
       obtain ⟨rfl, rfl, rfl, rfl, rfl⟩ := H
       have hcz14_0 : wc.cell? ⟨gb886, 0, none⟩ = some (.bool false) := (blk_cell BK886.out 0).trans rfl
       have hcz14_1 : wc.cell? ⟨gb886, 1, none⟩ = some (.bool false) := (blk_cell BK886.out 1).trans rfl
       have hcz14_2 : wc.cell? ⟨gb886, 2, none⟩ = some (.bool false) := (blk_cell BK886.out 2).trans rfl
       have hcz14_3 : wc.cell? ⟨gb886, 3, none⟩ = some (.bool false) := (blk_cell BK886.out 3).trans rfl
       have hcz14_4 : wc.cell? ⟨gb886, 4, none⟩ = some (.bool false) := (blk_cell BK886.out 4).trans rfl
       have hfz14_0 := blk_frozen BK886.out 0
       have hfz14_1 := blk_frozen BK886.out 1
       have hfz14_2 := blk_frozen BK886.out 2
       have hfz14_3 := blk_frozen BK886.out 3
       have hfz14_4 := blk_frozen BK886.out 4
       go_wp2
       refine bodyPost_ret (results_cell_row rfl _ _ gb886 153 #[.bool true, .bool true, .bool true, .bool false, .bool false] (0, 0) _ rfl (by (with_reducible repeat (first | refine blk_drewN ?_ _ | refine blk_drew ?_ | refine blk_alloc ?_ _)); refine blk_put (cs := #[.bool true, .bool true, .bool true, .bool false, .bool false]) ?_ 4 _ rfl; (with_reducible repeat (first | refine blk_drewN ?_ _ | refine blk_drew ?_ | refine blk_alloc ?_ _)); refine blk_put (cs := #[.bool true, .bool true, .bool true, .bool false, .bool false]) ?_ 3 _ rfl; (with_reducible repeat (first | refine blk_drewN ?_ _ | refine blk_drew ?_ | refine blk_alloc ?_ _)); refine blk_put (cs := #[.bool true, .bool true, .bool false, .bool false, .bool false]) ?_ 2 _ rfl; (with_reducible repeat (first | refine blk_drewN ?_ _ | refine blk_drew ?_ | refine blk_alloc ?_ _)); refine blk_put (cs := #[.bool true, .bool false, .bool false, .bool false, .bool false]) ?_ 1 _ rfl; (with_reducible repeat (first | refine blk_drewN ?_ _ | refine blk_drew ?_ | refine blk_alloc ?_ _)); refine blk_put (cs := #[.bool false, .bool false, .bool false, .bool false, .bool false]) ?_ 0 _ rfl; (with_reducible repeat (first | refine blk_drewN ?_ _ | refine blk_drew ?_ | refine blk_alloc ?_ _)); exact BK886.out) Try.underlying153 rfl (by kernel_rfl)) rfl ?_
       exact ⟨by first | rfl | (simp [errW_none, errW_some] <;> rfl) | (simp [*, errW_none, errW_some] <;> rfl), by repeat (first | (with_reducible first | exact HB.out | apply below_alloc | apply pw_below_drewN | apply below_drew1 | refine below_set ?_ GE886.out) | exact HB.out)⟩
      ·rw [if_neg c13] at H
       have c13b0 : (a0 == 5) = false := beq_eq_false_iff_ne.mpr c13
       have c13b1 : (a0 != 5) = true := bne_iff_ne.mpr c13
       by_cases c15 : a0 = 6
       ·rw [if_pos c15] at H
        have c15b0 : (a0 == 6) = true := beq_iff_eq.mpr c15
        have c15b1 : (a0 != 6) = false := bne_eq_false_iff_eq.mpr c15
        clear c15
        simp only [Option.some.injEq, Prod.mk.injEq] at H
        obtain ⟨rfl, rfl, rfl, rfl, rfl⟩ := H
        have hcz16_0 : wc.cell? ⟨gb886, 0, none⟩ = some (.bool false) := (blk_cell BK886.out 0).trans rfl
        have hcz16_1 : wc.cell? ⟨gb886, 1, none⟩ = some (.bool false) := (blk_cell BK886.out 1).trans rfl
        have hcz16_2 : wc.cell? ⟨gb886, 2, none⟩ = some (.bool false) := (blk_cell BK886.out 2).trans rfl
        have hcz16_3 : wc.cell? ⟨gb886, 3, none⟩ = some (.bool false) := (blk_cell BK886.out 3).trans rfl
        have hcz16_4 : wc.cell? ⟨gb886, 4, none⟩ = some (.bool false) := (blk_cell BK886.out 4).trans rfl
        have hfz16_0 := blk_frozen BK886.out 0
        have hfz16_1 := blk_frozen BK886.out 1
        have hfz16_2 := blk_frozen BK886.out 2
        have hfz16_3 := blk_frozen BK886.out 3
        have hfz16_4 := blk_frozen BK886.out 4
        go_wp2
        refine bodyPost_ret (results_cell_row rfl _ _ gb886 153 #[.bool false, .bool false, .bool true, .bool false, .bool false] (0, 0) _ rfl (by (with_reducible repeat (first | refine blk_drewN ?_ _ | refine blk_drew ?_ | refine blk_alloc ?_ _)); refine blk_put (cs := #[.bool false, .bool false, .bool true, .bool false, .bool false]) ?_ 4 _ rfl; (with_reducible repeat (first | refine blk_drewN ?_ _ | refine blk_drew ?_ | refine blk_alloc ?_ _)); refine blk_put (cs := #[.bool false, .bool false, .bool true, .bool false, .bool false]) ?_ 3 _ rfl; (with_reducible repeat (first | refine blk_drewN ?_ _ | refine blk_drew ?_ | refine blk_alloc ?_ _)); refine blk_put (cs := #[.bool false, .bool false, .bool false, .bool false, .bool false]) ?_ 2 _ rfl; (with_reducible repeat (first | refine blk_drewN ?_ _ | refine blk_drew ?_ | refine blk_alloc ?_ _)); refine blk_put (cs := #[.bool false, .bool false, .bool false, .bool false, .bool false]) ?_ 1 _ rfl; (with_reducible repeat (first | refine blk_drewN ?_ _ | refine blk_drew ?_ | refine blk_alloc ?_ _)); refine blk_put (cs := #[.bool false, .bool false, .bool false, .bool false, .bool false]) ?_ 0 _ rfl; (with_reducible repeat (first | refine blk_drewN ?_ _ | refine blk_drew ?_ | refine blk_alloc ?_ _)); exact BK886.out) Try.underlying153 rfl (by kernel_rfl)) rfl ?_
        exact ⟨by first | rfl | (simp [errW_none, errW_some] <;> rfl) | (simp [*, errW_none, errW_some] <;> rfl), by repeat (first | (with_reducible first | exact HB.out | apply below_alloc | apply pw_below_drewN | apply below_drew1 | refine below_set ?_ GE886.out) | exact HB.out)⟩
       ·rw [if_neg c15] at H
        have c15b0 : (a0 == 6) = false := beq_eq_false_iff_ne.mpr c15
        have c15b1 : (a0 != 6) = true := bne_iff_ne.mpr c15
        simp only [Option.some.injEq, Prod.mk.injEq] at H
        obtain ⟨rfl, rfl, rfl, rfl, rfl⟩ := H
        have hcz17_0 : wc.cell? ⟨gb886, 0, none⟩ = some (.bool false) := (blk_cell BK886.out 0).trans rfl
        have hcz17_1 : wc.cell? ⟨gb886, 1, none⟩ = some (.bool false) := (blk_cell BK886.out 1).trans rfl
        have hcz17_2 : wc.cell? ⟨gb886, 2, none⟩ = some (.bool false) := (blk_cell BK886.out 2).trans rfl
        have hcz17_3 : wc.cell? ⟨gb886, 3, none⟩ = some (.bool false) := (blk_cell BK886.out 3).trans rfl
        have hcz17_4 : wc.cell? ⟨gb886, 4, none⟩ = some (.bool false) := (blk_cell BK886.out 4).trans rfl
        have hfz17_0 := blk_frozen BK886.out 0
        have hfz17_1 := blk_frozen BK886.out 1
        have hfz17_2 := blk_frozen BK886.out 2
        have hfz17_3 := blk_frozen BK886.out 3
        have hfz17_4 := blk_frozen BK886.out 4
        go_wp2
        refine bodyPost_ret (results_cell_row rfl _ _ gb886 153 #[.bool false, .bool false, .bool false, .bool false, .bool false] (0, 0) _ rfl (by (with_reducible repeat (first | refine blk_drewN ?_ _ | refine blk_drew ?_ | refine blk_alloc ?_ _)); refine blk_put (cs := #[.bool false, .bool false, .bool false, .bool false, .bool false]) ?_ 4 _ rfl; (with_reducible repeat (first | refine blk_drewN ?_ _ | refine blk_drew ?_ | refine blk_alloc ?_ _)); refine blk_put (cs := #[.bool false, .bool false, .bool false, .bool false, .bool false]) ?_ 3 _ rfl; (with_reducible repeat (first | refine blk_drewN ?_ _ | refine blk_drew ?_ | refine blk_alloc ?_ _)); refine blk_put (cs := #[.bool false, .bool false, .bool false, .bool false, .bool false]) ?_ 2 _ rfl; (with_reducible repeat (first | refine blk_drewN ?_ _ | refine blk_drew ?_ | refine blk_alloc ?_ _)); refine blk_put (cs := #[.bool false, .bool false, .bool false, .bool false, .bool false]) ?_ 1 _ rfl; (with_reducible repeat (first | refine blk_drewN ?_ _ | refine blk_drew ?_ | refine blk_alloc ?_ _)); refine blk_put (cs := #[.bool false, .bool false, .bool false, .bool false, .bool false]) ?_ 0 _ rfl; (with_reducible repeat (first | refine blk_drewN ?_ _ | refine blk_drew ?_ | refine blk_alloc ?_ _)); exact BK886.out) Try.underlying153 rfl (by kernel_rfl)) rfl ?_
        exact ⟨by first | rfl | (simp [errW_none, errW_some] <;> rfl) | (simp [*, errW_none, errW_some] <;> rfl), by repeat (first | (with_reducible first | exact HB.out | apply below_alloc | apply pw_below_drewN | apply below_drew1 | refine below_set ?_ GE886.out) | exact HB.out)⟩

set_option maxHeartbeats 8000000 in
theorem slices_IndexFunc_impl_Clause.fn (g : Nat) (lb : Array Value) (eg : ∀ args w, (callFunc g args).run Try.prog w = .ok (.enter g args) w) (p : S178 → Bool) (A : Option Addr) (c : Nat) (l : List (S178)) (w : World) (hr : Kd.C k178 w A l.length l)
    (hp : ∀ (w1 : World) (x : S178) (A1 : Option Addr) (c1 : Nat), x ∈ l → Below w.heap.size w w1 → k89.C w A1 x.f1.length x.f1 → x.f1.length ≤ c1 → Calls Try.prog g (#[.agg #[.int .i64 x.f0, .slice A1 x.f1.length c1]] ++ lb) w1 fun e w' => e = .returned (.bool (p x)) ∧ Below w1.heap.size w1 w') :
    Calls Try.prog 182 #[.slice A l.length c, .func (.func g) #[] lb] w fun e w' => e = .returned (.int .i64 (idxOf p l)) ∧ Below w.heap.size w w' := by
  have hbig : l.length ≤ 9223372036854775807 := hr.2.1
  have HR := Aside0.mk hr
  have HP := Aside0.mk hp
  have HB := Aside0.mk (Below.refl w.heap.size w)
  have hu := Try.underlying178
  clear hr hp
  go_enter Try.func182, Try.ntmps182
  go_wp2
  go_loopg [5, 8] l.length (fun gg _ s8 wr => ∃ kk : Nat, kk ≤ l.length ∧ l.length - kk ≤ gg ∧ s8 = .int .i64 kk ∧ Aside0 (∀ j (hj : j < l.length), j < kk → p l[j] = false) ∧ Aside0 (Below w.heap.size w wr))
  case atStart => exact ⟨0, Nat.zero_le _, by omega, rfl, ⟨fun j _ hj => absurd hj (Nat.not_lt_zero _)⟩, ⟨by repeat (first | (with_reducible first | exact HB.out | apply below_alloc | apply pw_below_drewN | apply below_drew1) | exact HB.out)⟩⟩
  case round =>
    clear HB
    obtain ⟨kk, hkk, hg, rfl, HA, HB⟩ := hrel
    by_cases hlt : kk < l.length
    · have hltz : (kk : Int) < (l.length : Int) := by omega
      obtain ⟨ad, A1, c1, e, hx0, hx1, hl1, hC1⟩ := at_T178 HR.out (kk : Int) (by omega) hltz
      cases e
      have hge : rd_T178 l (kk : Int) = l[kk] := by unfold rd_T178; rw [Int.toNat_natCast, List.getD_eq_getElem?_getD, List.getElem?_eq_getElem hlt]; rfl
      replace hx0 := (HB.out.cell (World.block_lt_of_cell? w _ hx0)).trans hx0
      replace hx1 := (HB.out.cell (World.block_lt_of_cell? w _ hx1)).trans hx1
      have hm : rd_T178 l (kk : Int) ∈ l := by rw [hge]; exact List.getElem_mem hlt
      have HPE := Aside0.mk (show p (rd_T178 l (kk : Int)) = p l[kk] by rw [hge])
      have HL1 := Aside0.mk hl1
      have HC1 := Aside0.mk hC1
      have HM := Aside0.mk hm
      clear hm hge hl1 hC1
      generalize rd_T178 l (kk : Int) = y at hx0 hx1 HL1 HC1 HPE HM
      simp only [Int.toNat_natCast] at hx0 hx1
      have HC := Aside0.mk (fun (w1 : World) (hb1 : Below w.heap.size w w1) => HP.out w1 y A1 c1 HM.out hb1 HC1.out HL1.out)
      cases hq : p y with
      | true =>
        have HQ := Aside0.mk (HPE.out.symm.trans hq)
        have HC2 := Aside0.mk (fun (w1 : World) (hb1 : Below w.heap.size w w1) => hq ▸ HC.out w1 hb1)
        clear hq
        go_wp2_with (go_at_fn g; refine (HC2.out _ ?hb1).mono ?_; (case hb1 => repeat (first | (with_reducible first | exact HB.out | apply below_alloc | apply pw_below_drewN | apply below_drew1) | exact HB.out)); rintro e w' ⟨rfl, hb⟩; have n0_ := Aside0.mk (below_step (by repeat (first | (with_reducible first | exact HB.out | apply below_alloc | apply pw_below_drewN | apply below_drew1) | exact HB.out)) hb); clear HB hb; have HB := n0_; clear n0_)
        go_ret
        refine ⟨?_, by repeat (first | (with_reducible first | exact HB.out | apply below_alloc | apply pw_below_drewN | apply below_drew1) | exact HB.out)⟩
        rw [idxOf_hit p l kk hlt (fun j hj => HA.out j (by omega) hj) HQ.out]
        rfl
      | false =>
        have HQ := Aside0.mk (HPE.out.symm.trans hq)
        have HC2 := Aside0.mk (fun (w1 : World) (hb1 : Below w.heap.size w w1) => hq ▸ HC.out w1 hb1)
        clear hq
        go_wp2_with (go_at_fn g; refine (HC2.out _ ?hb1).mono ?_; (case hb1 => repeat (first | (with_reducible first | exact HB.out | apply below_alloc | apply pw_below_drewN | apply below_drew1) | exact HB.out)); rintro e w' ⟨rfl, hb⟩; have n0_ := Aside0.mk (below_step (by repeat (first | (with_reducible first | exact HB.out | apply below_alloc | apply pw_below_drewN | apply below_drew1) | exact HB.out)) hb); clear HB hb; have HB := n0_; clear n0_)
        go_roundg (l.length - (kk + 1))
        case measure => omega
        case rel =>
          refine ⟨kk + 1, by omega, by omega, by go_num, ⟨fun j hj hjk => ?_⟩, ⟨by repeat (first | (with_reducible first | exact HB.out | apply below_alloc | apply pw_below_drewN | apply below_drew1) | exact HB.out)⟩⟩
          by_cases e : j = kk
          · subst e
            exact HQ.out
          · exact HA.out j hj (by omega)
    · have hltz : ¬ (kk : Int) < (l.length : Int) := by omega
      have HMI := Aside0.mk (idxOf_miss p l (fun x hx => by
        obtain ⟨j, hj, rfl⟩ := List.getElem_of_mem hx
        exact HA.out j hj (by omega)))
      go_wp2
      go_ret
      refine ⟨?_, by repeat (first | (with_reducible first | exact HB.out | apply below_alloc | apply pw_below_drewN | apply below_drew1) | exact HB.out)⟩
      rw [HMI.out]
      rfl

set_option maxHeartbeats 8000000 in
theorem slices_ContainsFunc_impl_Clause.fn (g : Nat) (lb : Array Value) (eg : ∀ args w, (callFunc g args).run Try.prog w = .ok (.enter g args) w) (p : S178 → Bool) (A : Option Addr) (c : Nat) (l : List (S178)) (w : World) (hr : Kd.C k178 w A l.length l)
    (hp : ∀ (w1 : World) (x : S178) (A1 : Option Addr) (c1 : Nat), x ∈ l → Below w.heap.size w w1 → k89.C w A1 x.f1.length x.f1 → x.f1.length ≤ c1 → Calls Try.prog g (#[.agg #[.int .i64 x.f0, .slice A1 x.f1.length c1]] ++ lb) w1 fun e w' => e = .returned (.bool (p x)) ∧ Below w1.heap.size w1 w') :
    Calls Try.prog 166 #[.slice A l.length c, .func (.func g) #[] lb] w fun e w' => e = .returned (.bool (l.any p)) ∧ Below w.heap.size w w' := by
  have H := slices_IndexFunc_impl_Clause.fn g lb eg p A c l w hr hp
  have HB := Aside0.mk (idxOf_any p l)
  clear hr hp
  generalize idxOf p l = i at H HB
  generalize l.any p = b at HB
  have HH := Aside0.mk H
  clear H
  by_cases h0 : 0 ≤ i
  · obtain rfl : b = true := by rw [← HB.out]; exact h0
    clear HB
    go_enter Try.func166, Try.ntmps166
    go_wp2_with (go_at_call 182; refine HH.out.mono ?_; rintro e w' ⟨rfl, hb⟩; have HB2 := Aside0.mk hb; clear hb)
    go_ret
    exact ⟨by simp [h0], by repeat (first | (with_reducible first | exact HB2.out | apply below_alloc | apply pw_below_drewN | apply below_drew1) | exact HB2.out)⟩
  · obtain rfl : b = false := by
      cases hb : b
      · rfl
      · exact absurd (HB.out.mpr hb) h0
    clear HB
    go_enter Try.func166, Try.ntmps166
    go_wp2_with (go_at_call 182; refine HH.out.mono ?_; rintro e w' ⟨rfl, hb⟩; have HB2 := Aside0.mk hb; clear hb)
    go_ret
    exact ⟨by simp [h0], by repeat (first | (with_reducible first | exact HB2.out | apply below_alloc | apply pw_below_drewN | apply below_drew1) | exact HB2.out)⟩

def impl_areAwaited_1.f (k : Nat) (a0_0 : Int) (l0_1 : List (S89)) : Option (Bool) := if a0_0 = 1 then ((impl_GoodRe.f k l0_1).bind fun t888 => (some (!t888))) else (if a0_0 = 2 then (some (decide ((l0_1.length : Int) > 0))) else (if a0_0 = 3 then (some (decide ((l0_1.length : Int) > 0))) else (some true)))
theorem impl_areAwaited_1.mono : ∀ a0 a1 k, LeO (impl_areAwaited_1.f k a0 a1) (impl_areAwaited_1.f (k + 1) a0 a1) := by
 intro a0 a1 k
 unfold impl_areAwaited_1.f
 repeat' first
   | (with_reducible exact impl_GoodRe.mono _ _)
   | (with_reducible exact LeO.refl _)
   | (with_reducible exact LeO.none _)
   | (with_reducible refine LeO.ite ?_ ?_)
   | (with_reducible refine LeO.bind ?_ (fun _ => ?_))
   | exact impl_GoodRe.mono _ _
   | exact LeO.none _
   | refine LeO.ite ?_ ?_
   | refine LeO.bind ?_ (fun _ => ?_)
set_option maxHeartbeats 8000000 in
set_option maxRecDepth 100000 in
theorem impl_areAwaited_1.calls (k : Nat) (a0_0 : Int) (A0_1 : Option Addr) (c0_1 : Nat) (l0_1 : List (S89)) (r : Bool) (w : World) (hr0_1 : Kd.C k89 w A0_1 l0_1.length l0_1) (hc0_1 : l0_1.length ≤ c0_1) (h : impl_areAwaited_1.f k a0_0 l0_1 = some r) :
  Calls Try.prog 167 #[.agg #[.int .i64 a0_0, .slice A0_1 l0_1.length c0_1]] w fun e w' => e = .returned (.bool r) ∧ Below w.heap.size w w' := by
 have hu178 := Try.underlying178
 have HR0_1 := Aside0.mk hr0_1
 have HC0_1 := Aside0.mk hc0_1
 clear hr0_1 hc0_1
 have HB := Aside0.mk (Below.refl w.heap.size w)
 have H : (if a0_0 = 1 then ((impl_GoodRe.f k l0_1).bind fun t888 => (some (!t888))) else (if a0_0 = 2 then (some (decide ((l0_1.length : Int) > 0))) else (if a0_0 = 3 then (some (decide ((l0_1.length : Int) > 0))) else (some true)))) = some r := h
 clear h
 by_cases c2 : a0_0 = 1
 ·rw [if_pos c2] at H
  have c2b0 : (a0_0 == 1) = true := beq_iff_eq.mpr c2
  have c2b1 : (a0_0 != 1) = false := bne_eq_false_iff_eq.mpr c2
  clear c2
  replace H := Option.bind_eq_some_iff.mp H
  obtain ⟨t888, A30, H⟩ := H
  replace H : (some (!t888)) = some r := H
  have A3 := Aside0.mk A30
  clear A30
  obtain rfl := Option.some.inj H
  go_enter Try.func167, Try.ntmps167
  go_wp2_with (first | ((with_reducible refine gate_dst (N := 1) rfl ?_); refine box_event ?hg (N := 1) ?hd (cs := #[.int .i64 a0_0, .slice A0_1 l0_1.length c0_1]) (t := 178) ?hr ?_; (case hd => rfl); (case hg => rfl); (case hr => first | (go_simp; done) | (go_simp; rfl)); intro gb887 hg w4 hbox hb; have n0_ := Aside0.mk (below_step (by repeat (first | (with_reducible first | exact HB.out | apply below_alloc | apply pw_below_drewN | apply below_drew1) | exact HB.out)) hb); have n1_ := Aside0.mk (hbox); have n2_ := Aside0.mk ((by rw [hg]; exact (below_size (by repeat (first | (with_reducible first | exact HB.out | apply below_alloc | apply pw_below_drewN | apply below_drew1) | exact HB.out))) : w.heap.size ≤ gb887)); have n3_ := Aside0.mk ((by rw [hg]; exact (below_size (by repeat (first | (with_reducible first | exact HB.out | apply below_alloc | apply pw_below_drewN | apply below_drew1) | exact HB.out))) : w.heap.size ≤ gb887)); clear HB; have HB := n0_; have BK887 := n1_; have GW887 := n2_; have GE887 := n3_; clear n0_ n1_ n2_ n3_; clear hb hbox hg; have hcz5_0 : w4.cell? ⟨gb887, 0, none⟩ = some (.int .i64 a0_0) := (blk_cell BK887.out 0).trans rfl; have hcz5_1 : w4.cell? ⟨gb887, 1, none⟩ = some (.slice A0_1 l0_1.length c0_1) := (blk_cell BK887.out 1).trans rfl; have hfz5_0 := blk_frozen BK887.out 0; have hfz5_1 := blk_frozen BK887.out 1) | ((with_reducible refine gate_callee (f := 75) rfl ?_); refine goesL_ (some 9) rfl rfl Try.func75 (by kernel_rfl) rfl #[.slice A0_1 l0_1.length c0_1] rfl (by (try simp only [List.map_toArray, List.map_cons, List.map_nil]); first | done | rfl | (simp only [List.length_drop, List.length_take]; rfl)) ?_; (with_reducible refine (impl_GoodRe.calls k _ _ l0_1 t888 _ ?side1 ?side2 A3.out).mono ?_); (case side1 => repeat (first | exact (Kd.C_below HR0_1.out HB.out) | (with_reducible refine Kd.C_alloc ?_ _) | (with_reducible refine Kd.C_drewN ?_ _) | (with_reducible refine Kd.C_drew ?_))); (case side2 => exact HC0_1.out); rintro e w6 ⟨rfl, hb⟩; refine ⟨_, rfl, ?_⟩; have n0_ := Aside0.mk (blk_below (g := gb887) (o := .cells #[.int .i64 a0_0, .slice A0_1 l0_1.length c0_1] 178 (0, 0)) (by (with_reducible repeat (first | refine blk_drewN ?_ _ | refine blk_drew ?_ | refine blk_alloc ?_ _)); exact BK887.out) hb); have n1_ := Aside0.mk (below_step (by repeat (first | (with_reducible first | exact HB.out | apply below_alloc | apply pw_below_drewN | apply below_drew1 | refine below_set ?_ GE887.out) | exact HB.out)) hb); clear BK887; clear HB; have BK887 := n0_; have HB := n1_; clear n0_ n1_; (try clear hb); (try clear hb2); (try clear hk); (try clear hi)))
  go_ret
  exact ⟨by first | rfl | (simp [errW_none, errW_some] <;> rfl) | (simp [*, errW_none, errW_some] <;> rfl), by repeat (first | (with_reducible first | exact HB.out | apply below_alloc | apply pw_below_drewN | apply below_drew1 | refine below_set ?_ GE887.out) | exact HB.out)⟩
 ·rw [if_neg c2] at H
  have c2b0 : (a0_0 == 1) = false := beq_eq_false_iff_ne.mpr c2
  have c2b1 : (a0_0 != 1) = true := bne_iff_ne.mpr c2
  by_cases c7 : a0_0 = 2
  ·rw [if_pos c7] at H
   have c7b0 : (a0_0 == 2) = true := beq_iff_eq.mpr c7
   have c7b1 : (a0_0 != 2) = false := bne_eq_false_iff_eq.mpr c7
   clear c7
   obtain rfl := Option.some.inj H
   go_enter Try.func167, Try.ntmps167
   go_wp2_with (first | ((with_reducible refine gate_dst (N := 1) rfl ?_); refine box_event ?hg (N := 1) ?hd (cs := #[.int .i64 a0_0, .slice A0_1 l0_1.length c0_1]) (t := 178) ?hr ?_; (case hd => rfl); (case hg => rfl); (case hr => first | (go_simp; done) | (go_simp; rfl)); intro gb887 hg w8 hbox hb; have n0_ := Aside0.mk (below_step (by repeat (first | (with_reducible first | exact HB.out | apply below_alloc | apply pw_below_drewN | apply below_drew1) | exact HB.out)) hb); have n1_ := Aside0.mk (hbox); have n2_ := Aside0.mk ((by rw [hg]; exact (below_size (by repeat (first | (with_reducible first | exact HB.out | apply below_alloc | apply pw_below_drewN | apply below_drew1) | exact HB.out))) : w.heap.size ≤ gb887)); have n3_ := Aside0.mk ((by rw [hg]; exact (below_size (by repeat (first | (with_reducible first | exact HB.out | apply below_alloc | apply pw_below_drewN | apply below_drew1) | exact HB.out))) : w.heap.size ≤ gb887)); clear HB; have HB := n0_; have BK887 := n1_; have GW887 := n2_; have GE887 := n3_; clear n0_ n1_ n2_ n3_; clear hb hbox hg; have hcz9_0 : w8.cell? ⟨gb887, 0, none⟩ = some (.int .i64 a0_0) := (blk_cell BK887.out 0).trans rfl; have hcz9_1 : w8.cell? ⟨gb887, 1, none⟩ = some (.slice A0_1 l0_1.length c0_1) := (blk_cell BK887.out 1).trans rfl; have hfz9_0 := blk_frozen BK887.out 0; have hfz9_1 := blk_frozen BK887.out 1))
   go_ret
   exact ⟨by first | rfl | (simp [errW_none, errW_some] <;> rfl) | (simp [*, errW_none, errW_some] <;> rfl), by repeat (first | (with_reducible first | exact HB.out | apply below_alloc | apply pw_below_drewN | apply below_drew1 | refine below_set ?_ GE887.out) | exact HB.out)⟩
  ·rw [if_neg c7] at H
   have c7b0 : (a0_0 == 2) = false := beq_eq_false_iff_ne.mpr c7
   have c7b1 : (a0_0 != 2) = true := bne_iff_ne.mpr c7
   by_cases c10 : a0_0 = 3
   ·rw [if_pos c10] at H
    have c10b0 : (a0_0 == 3) = true := beq_iff_eq.mpr c10
    have c10b1 : (a0_0 != 3) = false := bne_eq_false_iff_eq.mpr c10
    clear c10
    obtain rfl := Option.some.inj H
    go_enter Try.func167, Try.ntmps167
    go_wp2_with (first | ((with_reducible refine gate_dst (N := 1) rfl ?_); refine box_event ?hg (N := 1) ?hd (cs := #[.int .i64 a0_0, .slice A0_1 l0_1.length c0_1]) (t := 178) ?hr ?_; (case hd => rfl); (case hg => rfl); (case hr => first | (go_simp; done) | (go_simp; rfl)); intro gb887 hg w11 hbox hb; have n0_ := Aside0.mk (below_step (by repeat (first | (with_reducible first | exact HB.out | apply below_alloc | apply pw_below_drewN | apply below_drew1) | exact HB.out)) hb); have n1_ := Aside0.mk (hbox); have n2_ := Aside0.mk ((by rw [hg]; exact (below_size (by repeat (first | (with_reducible first | exact HB.out | apply below_alloc | apply pw_below_drewN | apply below_drew1) | exact HB.out))) : w.heap.size ≤ gb887)); have n3_ := Aside0.mk ((by rw [hg]; exact (below_size (by repeat (first | (with_reducible first | exact HB.out | apply below_alloc | apply pw_below_drewN | apply below_drew1) | exact HB.out))) : w.heap.size ≤ gb887)); clear HB; have HB := n0_; have BK887 := n1_; have GW887 := n2_; have GE887 := n3_; clear n0_ n1_ n2_ n3_; clear hb hbox hg; have hcz12_0 : w11.cell? ⟨gb887, 0, none⟩ = some (.int .i64 a0_0) := (blk_cell BK887.out 0).trans rfl; have hcz12_1 : w11.cell? ⟨gb887, 1, none⟩ = some (.slice A0_1 l0_1.length c0_1) := (blk_cell BK887.out 1).trans rfl; have hfz12_0 := blk_frozen BK887.out 0; have hfz12_1 := blk_frozen BK887.out 1))
    go_ret
    exact ⟨by first | rfl | (simp [errW_none, errW_some] <;> rfl) | (simp [*, errW_none, errW_some] <;> rfl), by repeat (first | (with_reducible first | exact HB.out | apply below_alloc | apply pw_below_drewN | apply below_drew1 | refine below_set ?_ GE887.out) | exact HB.out)⟩
   ·rw [if_neg c10] at H
    have c10b0 : (a0_0 == 3) = false := beq_eq_false_iff_ne.mpr c10
    have c10b1 : (a0_0 != 3) = true := bne_iff_ne.mpr c10
    obtain rfl := Option.some.inj H
    go_enter Try.func167, Try.ntmps167
    go_wp2_with (first | ((with_reducible refine gate_dst (N := 1) rfl ?_); refine box_event ?hg (N := 1) ?hd (cs := #[.int .i64 a0_0, .slice A0_1 l0_1.length c0_1]) (t := 178) ?hr ?_; (case hd => rfl); (case hg => rfl); (case hr => first | (go_simp; done) | (go_simp; rfl)); intro gb887 hg w13 hbox hb; have n0_ := Aside0.mk (below_step (by repeat (first | (with_reducible first | exact HB.out | apply below_alloc | apply pw_below_drewN | apply below_drew1) | exact HB.out)) hb); have n1_ := Aside0.mk (hbox); have n2_ := Aside0.mk ((by rw [hg]; exact (below_size (by repeat (first | (with_reducible first | exact HB.out | apply below_alloc | apply pw_below_drewN | apply below_drew1) | exact HB.out))) : w.heap.size ≤ gb887)); have n3_ := Aside0.mk ((by rw [hg]; exact (below_size (by repeat (first | (with_reducible first | exact HB.out | apply below_alloc | apply pw_below_drewN | apply below_drew1) | exact HB.out))) : w.heap.size ≤ gb887)); clear HB; have HB := n0_; have BK887 := n1_; have GW887 := n2_; have GE887 := n3_; clear n0_ n1_ n2_ n3_; clear hb hbox hg; have hcz14_0 : w13.cell? ⟨gb887, 0, none⟩ = some (.int .i64 a0_0) := (blk_cell BK887.out 0).trans rfl; have hcz14_1 : w13.cell? ⟨gb887, 1, none⟩ = some (.slice A0_1 l0_1.length c0_1) := (blk_cell BK887.out 1).trans rfl; have hfz14_0 := blk_frozen BK887.out 0; have hfz14_1 := blk_frozen BK887.out 1))
    go_ret
    exact ⟨by first | rfl | (simp [errW_none, errW_some] <;> rfl) | (simp [*, errW_none, errW_some] <;> rfl), by repeat (first | (with_reducible first | exact HB.out | apply below_alloc | apply pw_below_drewN | apply below_drew1 | refine below_set ?_ GE887.out) | exact HB.out)⟩

def slices_ContainsFunc_impl_Clause_167.f (k : Nat) (l0 : List (S178)) : Option Bool := anyO (fun x => impl_areAwaited_1.f k x.f0 x.f1) l0
theorem slices_ContainsFunc_impl_Clause_167.mono : ∀ a0 k, LeO (slices_ContainsFunc_impl_Clause_167.f k a0) (slices_ContainsFunc_impl_Clause_167.f (k + 1) a0) := fun a0 k => by unfold slices_ContainsFunc_impl_Clause_167.f; exact anyO_mono (fun x => impl_areAwaited_1.mono x.f0 x.f1 k) a0
set_option maxHeartbeats 8000000 in
theorem slices_ContainsFunc_impl_Clause_167.calls (k : Nat) (A0 : Option Addr) (c0 : Nat) (l0 : List (S178)) (r : Bool) (w : World) (hr0 : Kd.C k178 w A0 l0.length l0) (hc0 : l0.length ≤ c0) (h : slices_ContainsFunc_impl_Clause_167.f k l0 = some r) :
    Calls Try.prog 166 #[.slice A0 l0.length c0, .func (.func 167) #[] #[]] w fun e w' => e = .returned (.bool r) ∧ Below w.heap.size w w' := by
  have eg : ∀ args w, (callFunc 167 args).run Try.prog w = .ok (.enter 167 args) w := enters_of Try.func167 (by kernel_rfl) rfl
  obtain ⟨hs, rfl⟩ := anyO_some h
  exact slices_ContainsFunc_impl_Clause.fn 167 #[] eg (fun x => (impl_areAwaited_1.f k x.f0 x.f1).getD false) A0 c0 l0 w hr0 (fun w1 x A1 c1 hx hB hC1 hl1 => impl_areAwaited_1.calls k x.f0 A1 c1 x.f1 _ w1 (Kd.C_below hC1 hB) hl1 (by
    obtain ⟨b, hb⟩ := Option.isSome_iff_exists.1 (hs x hx)
    rw [hb]
    rfl))

def impl_areAwaited.f (k : Nat) (l0 : List (S178)) : Option (Bool) := if (l0.length : Int) ≤ 8 then ((slices_ContainsFunc_impl_Clause_167.f k l0).bind fun t889 => (some (!t889))) else (some false)
theorem impl_areAwaited.mono : ∀ a0 k, LeO (impl_areAwaited.f k a0) (impl_areAwaited.f (k + 1) a0) := by
  intro a0 k
  unfold impl_areAwaited.f
  repeat' first
      | (with_reducible exact slices_ContainsFunc_impl_Clause_167.mono _ _)
      | (with_reducible exact LeO.refl _)
      | (with_reducible exact LeO.none _)
      | (with_reducible refine LeO.ite ?_ ?_)
      | (with_reducible refine LeO.bind ?_ (fun _ => ?_))
      | exact slices_ContainsFunc_impl_Clause_167.mono _ _
      | exact LeO.none _
      | refine LeO.ite ?_ ?_
      | refine LeO.bind ?_ (fun _ => ?_)
set_option maxHeartbeats 8000000 in
set_option maxRecDepth 100000 in
theorem impl_areAwaited.calls (k : Nat) (A0 : Option Addr) (c0 : Nat) (l0 : List (S178)) (r : Bool) (w : World) (hr0 : Kd.C k178 w A0 l0.length l0) (hc0 : l0.length ≤ c0) (h : impl_areAwaited.f k l0 = some r) :
    Calls Try.prog 134 #[.slice A0 l0.length c0] w fun e w' => e = .returned (.bool r) ∧ Below w.heap.size w w' := by
  have HR0 := Aside0.mk hr0
  have HC0 := Aside0.mk hc0
  clear hr0 hc0
  have HB := Aside0.mk (Below.refl w.heap.size w)
  have H : (if (l0.length : Int) ≤ 8 then ((slices_ContainsFunc_impl_Clause_167.f k l0).bind fun t889 => (some (!t889))) else (some false)) = some r := h
  clear h
  by_cases c2 : (l0.length : Int) ≤ 8
  · rw [if_pos c2] at H
    have c2b0 : decide ((l0.length : Int) ≤ 8) = true := decide_eq_true c2
    have c2b1 : decide (l0.length ≤ 8) = true := decide_eq_true (by omega)
    clear c2
    replace H := Option.bind_eq_some_iff.mp H
    obtain ⟨t889, A30, H⟩ := H
    replace H : (some (!t889)) = some r := H
    have A3 := Aside0.mk A30
    clear A30
    obtain rfl := Option.some.inj H
    go_enter Try.func134, Try.ntmps134
    go_wp2_with (first | (go_at_call 166; (with_reducible refine (slices_ContainsFunc_impl_Clause_167.calls k _ _ l0  t889 _ ?side1 ?side2 A3.out).mono ?_); (case side1 => repeat (first | exact HR0.out | (with_reducible refine Kd.C_alloc ?_ _) | (with_reducible refine Kd.C_drewN ?_ _) | (with_reducible refine Kd.C_drew ?_))); (case side2 => exact HC0.out); rintro e w4 ⟨rfl, hb⟩; have n0_ := Aside0.mk (below_step (by repeat (first | (with_reducible first | exact HB.out | apply below_alloc | apply pw_below_drewN | apply below_drew1) | exact HB.out)) hb); clear HB; have HB := n0_; clear n0_; (try clear hb); (try clear hb2); (try clear hk); (try clear hi)))
    go_ret
    exact ⟨by first | rfl | (simp [errW_none, errW_some] <;> rfl) | (simp [*, errW_none, errW_some] <;> rfl), by repeat (first | (with_reducible first | exact HB.out | apply below_alloc | apply pw_below_drewN | apply below_drew1) | exact HB.out)⟩
  · rw [if_neg c2] at H
    have c2b0 : decide ((l0.length : Int) ≤ 8) = false := decide_eq_false c2
    have c2b1 : decide (l0.length ≤ 8) = false := decide_eq_false (by omega)
    clear c2
    obtain rfl := Option.some.inj H
    go_enter Try.func134, Try.ntmps134
    go_wp2
    go_ret
    exact ⟨by first | rfl | (simp [errW_none, errW_some] <;> rfl) | (simp [*, errW_none, errW_some] <;> rfl), by repeat (first | (with_reducible first | exact HB.out | apply below_alloc | apply pw_below_drewN | apply below_drew1) | exact HB.out)⟩

def impl_goodIns_1.f (a0 s : Int) : Option Bool := (impl_inRange.f a0 0 s).bind fun t => some (!t)
set_option maxHeartbeats 4000000 in
theorem impl_goodIns_1.calls (g : Nat) (s a0 : Int) (r : Bool) (w : World) (hb : w.heap[g]? = some (.cells #[.int .i64 s] 3 (0, 0))) (h : impl_goodIns_1.f a0 s = some r) :
    Calls Try.prog 135 (#[.int .i64 a0] ++ #[.pointer (some ⟨g, 0, none⟩)]) w fun e w' => e = .returned (.bool r) ∧ Drawn0 w w' := by
  unfold impl_goodIns_1.f at h
  obtain ⟨t, ht, h⟩ := Option.bind_eq_some_iff.mp h
  obtain rfl := Option.some.inj h
  have HT := Aside0.mk ht
  clear ht h
  have hcz : w.cell? ⟨g, 0, none⟩ = some (.int .i64 s) := (blk_cell hb 0).trans rfl
  clear hb
  go_enter Try.func135, Try.ntmps135
  go_wp2_with (go_at_call 68; refine (impl_inRange.calls a0 0 s t _ HT.out).mono ?_; rintro e w' ⟨rfl, ⟨nd, rfl⟩⟩)
  go_ret
  exact ⟨by first | rfl | simp [*], ⟨_, rfl⟩⟩

def slices_ContainsFunc_int_int_135.f (l0 : List Int) (s : Int) : Option Bool := anyO (fun x => impl_goodIns_1.f x s) l0
set_option maxHeartbeats 8000000 in
theorem slices_ContainsFunc_int_int_135.calls {g1 : Nat} (A0 : Option Addr) (c0 : Nat) (l0 : List Int) (s : Int) (r : Bool) (w : World) (hr0 : Kd.C (Kd.int .i64) w A0 l0.length l0) (hc0 : l0.length ≤ c0)
    (hb1 : w.heap[g1]? = some (.cells #[.int .i64 s] 3 (0, 0))) (h : slices_ContainsFunc_int_int_135.f l0 s = some r) :
    Calls Try.prog 113 #[.slice A0 l0.length c0, .func (.func 135) #[] #[.pointer (some ⟨g1, 0, none⟩)]] w fun e w' => e = .returned (.bool r) ∧ Drawn0 w w' := by
  have eg : ∀ args w, (callFunc 135 args).run Try.prog w = .ok (.enter 135 args) w := enters_of Try.func135 (by kernel_rfl) rfl
  obtain ⟨hs, rfl⟩ := anyO_some h
  exact slices_ContainsFunc_int_int.fn 135 #[.pointer (some ⟨g1, 0, none⟩)] eg (fun x => (impl_goodIns_1.f x s).getD false) A0 c0 l0 w hr0 (fun n x hx => impl_goodIns_1.calls g1 s x _ _ hb1 (by
    obtain ⟨b, hb⟩ := Option.isSome_iff_exists.1 (hs x hx)
    rw [hb]
    rfl))

def impl_goodIns.h (f0 : Int) : Bool × Bool × Bool × Bool × Bool := if f0 = 1 then (false, false, false, true, false) else if f0 = 2 then (true, false, true, false, true) else if f0 = 3 then (true, true, false, false, false) else if f0 = 4 then (true, true, false, false, false) else if f0 = 5 then (true, true, true, false, false) else if f0 = 6 then (false, false, true, false, false) else (false, false, false, false, false)
def impl_goodIns.G (h : Bool × Bool × Bool × Bool × Bool) (z1 z2 z3 p4 p5 q ta tb tt tr tw tg : Bool) : Bool :=
  (h.1 || z1) && ((h.2.1 || z2) && ((h.2.2.1 || z3) && ((h.2.2.2.1 || !p4) && ((h.2.2.2.2 || !p5) && ((!h.1 || ta) && (tb && (tt && (tr && (tw && (q && !tg))))))))))
def impl_goodIns.f : Nat → Int → Int → Int → Int → List Int → List S178 → List Int → Int → Option Bool
  | 0, _, _, _, _, _, _, _, _ => none
  | k + 1, f0, f1, f2, f3, l4, l5, l6, many => (impl_inRange.f f0 1 7).bind fun tk => (impl_inRange.f f1 0 (if f0 = 2 then 1000 else 3)).bind fun ta => (impl_inRange.f f2 (-1000) 1000).bind fun tb => (impl_inRange.f f3 0 many).bind fun tt => (impl_areRunes.f (k + 1) l4 40).bind fun tr => (impl_areAwaited.f (k + 1) l5).bind fun tw => (slices_ContainsFunc_int_int_135.f l6 many).bind fun tg =>
    some (tk && impl_goodIns.G (impl_goodIns.h f0) (f1 == 0) (f2 == 0) (f3 == 0) (decide (0 < (l4.length : Int))) (decide (0 < (wrap64 ((l5.length : Int) + (l6.length : Int))))) ((l6.length : Int) == (l5.length : Int)) ta tb tt tr tw tg)
theorem impl_goodIns.mono : ∀ f0 f1 f2 f3 l4 l5 l6 many k, LeO (impl_goodIns.f k f0 f1 f2 f3 l4 l5 l6 many) (impl_goodIns.f (k + 1) f0 f1 f2 f3 l4 l5 l6 many) := by
  intro f0 f1 f2 f3 l4 l5 l6 many k
  cases k with
  | zero => exact LeO.none _
  | succ k => exact LeO.bind (LeO.refl _) fun _ => LeO.bind (LeO.refl _) fun _ => LeO.bind (LeO.refl _) fun _ => LeO.bind (LeO.refl _) fun _ => LeO.bind (impl_areRunes.mono _ _ _) fun _ => LeO.bind (impl_areAwaited.mono _ _) fun _ => LeO.refl _
set_option maxHeartbeats 16000000 in
set_option maxRecDepth 100000 in
theorem impl_goodIns.k1 (k : Nat) (f1 f2 f3 : Int) (A4 : Option Addr) (c4 : Nat) (l4 : List Int) (A5 : Option Addr) (c5 : Nat) (l5 : List S178) (A6 : Option Addr) (c6 : Nat) (l6 : List Int) (many : Int) (ta tb tt tr tw tg : Bool) (w : World) (hr4 : Kd.C (Kd.int .i64) w A4 l4.length l4) (hc4 : l4.length ≤ c4) (hr5 : Kd.C k178 w A5 l5.length l5) (hc5 : l5.length ≤ c5) (hr6 : Kd.C (Kd.int .i64) w A6 l6.length l6) (hc6 : l6.length ≤ c6) (ha : impl_inRange.f f1 0 3 = some ta) (hbb : impl_inRange.f f2 (-1000) 1000 = some tb) (ht : impl_inRange.f f3 0 many = some tt) (hrr : impl_areRunes.f (k + 1) l4 40 = some tr) (hw : impl_areAwaited.f (k + 1) l5 = some tw) (hg : slices_ContainsFunc_int_int_135.f l6 many = some tg) :
    Calls Try.prog 88 #[.agg #[.int .i64 1, .int .i64 f1, .int .i64 f2, .int .i64 f3, .slice A4 l4.length c4, .slice A5 l5.length c5, .slice A6 l6.length c6], .int .i64 many] w fun e w' => e = .returned (.bool (impl_goodIns.G (false, false, false, true, false) (f1 == 0) (f2 == 0) (f3 == 0) (decide (0 < (l4.length : Int))) (decide (0 < (wrap64 ((l5.length : Int) + (l6.length : Int))))) ((l6.length : Int) == (l5.length : Int)) ta tb tt tr tw tg)) ∧ Below w.heap.size w w' := by
  have hu := Try.underlying115
  have hv := Try.underlying153
  have HH : Aside0 (impl_hasOf.f (k + 1) 1 = some (false, false, false, true, false)) := ⟨by rfl⟩
  have HK : Aside0 (impl_inRange.f 1 1 7 = some true) := ⟨by rfl⟩
  have HA := Aside0.mk ha
  have HBB := Aside0.mk hbb
  have HT := Aside0.mk ht
  have HR := Aside0.mk hrr
  have HW := Aside0.mk hw
  have HG := Aside0.mk hg
  have HR4 := Aside0.mk hr4
  have HC4 := Aside0.mk hc4
  have HR5 := Aside0.mk hr5
  have HC5 := Aside0.mk hc5
  have HR6 := Aside0.mk hr6
  have HC6 := Aside0.mk hc6
  have hyp_ := trivial
  clear hr4 hc4 hr5 hc5 hr6 hc6 ha hbb ht hrr hw hg
  clear hyp_
  go_enter Try.func88, Try.ntmps88
  go_wp2_with (first | ((with_reducible refine gate_dst (N := 2) rfl ?_); refine box_event ?hg (N := 2) ?hd (cs := #[.int .i64 1, .int .i64 f1, .int .i64 f2, .int .i64 f3, .slice A4 l4.length c4, .slice A5 l5.length c5, .slice A6 l6.length c6]) (t := 115) ?hr ?_; (case hd => rfl); (case hg => rfl); (case hr => first | (go_simp; done) | (go_simp; rfl)); intro gx hg w1 hbox hb; have HB := Aside0.mk hb; have BX := Aside0.mk hbox; clear hb hbox hg) | ((with_reducible refine gate_dst (N := 3) rfl ?_); refine box_event ?hg (N := 3) ?hd (cs := #[.int .i64 many]) (t := 3) ?hr ?_; (case hd => rfl); (case hg => rfl); (case hr => first | (go_simp; done) | (go_simp; rfl)); intro gy hg w2 hbox hb; have n0_ := Aside0.mk (blk_below BX.out hb); have n1_ := Aside0.mk (below_step HB.out hb); clear BX HB; have BX := n0_; have HB := n1_; have BY := Aside0.mk hbox; clear n0_ n1_ hb hbox hg; have hx0 := bc0 BX.out; have hx1 := bc1 BX.out; have hx2 := bc2 BX.out; have hx3 := bc3 BX.out; have hx4 := bc4 BX.out; have hx5 := bc5 BX.out; have hx6 := bc6 BX.out) | (go_at_call 133; (with_reducible refine (impl_hasOf.calls (k + 1) 1 false false false true false _ HH.out).mono ?_); rintro e w9 ⟨rfl, hb⟩; have n0_ := Aside0.mk (blk_below BX.out hb); have n1_ := Aside0.mk (blk_below BY.out hb); have n2_ := Aside0.mk (below_step HB.out hb); clear BX BY HB; have BX := n0_; have BY := n1_; have HB := n2_; clear n0_ n1_ n2_ hb) | ((with_reducible refine gate_dst (N := 5) rfl ?_); refine box_event ?hg (N := 5) ?hd (cs := #[.bool false, .bool false, .bool false, .bool false, .bool false]) (t := 153) ?hr ?_; (case hd => rfl); (case hg => rfl); (case hr => first | (go_simp; done) | (go_simp; rfl)); intro gz hg w3 hbox hb; have NXZ := Aside0.mk (by rw [hg]; exact Nat.ne_of_lt (blk_lt BX.out) : gx ≠ gz); have NYZ := Aside0.mk (by rw [hg]; exact Nat.ne_of_lt (blk_lt BY.out) : gy ≠ gz); have GZ := Aside0.mk (by rw [hg]; exact below_size HB.out : w.heap.size ≤ gz); have n0_ := Aside0.mk (blk_below BX.out hb); have n1_ := Aside0.mk (blk_below BY.out hb); have n2_ := Aside0.mk (below_step HB.out hb); clear BX BY HB; have BX := n0_; have BY := n1_; have HB := n2_; have BZ := Aside0.mk hbox; clear n0_ n1_ n2_ hb hbox hg; have hnxz := NXZ.out; have hnyz := NYZ.out; have hnzx := Ne.symm NXZ.out; have hnzy := Ne.symm NYZ.out; have hx0 := bc0 BX.out; have hx1 := bc1 BX.out; have hx2 := bc2 BX.out; have hx3 := bc3 BX.out; have hx4 := bc4 BX.out; have hx5 := bc5 BX.out; have hx6 := bc6 BX.out; have hy0 := bc0 BY.out; have hz0 := bc0 BZ.out; have hz1 := bc1 BZ.out; have hz2 := bc2 BZ.out; have hz3 := bc3 BZ.out; have hz4 := bc4 BZ.out; have hf0 := blk_frozen BZ.out 0; have hf1 := blk_frozen BZ.out 1; have hf2 := blk_frozen BZ.out 2; have hf3 := blk_frozen BZ.out 3; have hf4 := blk_frozen BZ.out 4) | (go_at_call 68; (with_reducible refine (impl_inRange.calls 1 1 7 true _ HK.out).mono ?_); rintro e w' ⟨rfl, ⟨nd, rfl⟩⟩) | (go_at_call 68; (with_reducible refine (impl_inRange.calls _ (-1000) 1000 tb _ (by first | exact HBB.out | (have h_ := HBB.out; rw [‹f2 = 0›] at h_; exact h_))).mono ?_); rintro e w' ⟨rfl, ⟨nd, rfl⟩⟩) | (go_at_call 68; (with_reducible refine (impl_inRange.calls _ 0 many tt _ (by first | exact HT.out | (have h_ := HT.out; rw [‹f3 = 0›] at h_; exact h_))).mono ?_); rintro e w' ⟨rfl, ⟨nd, rfl⟩⟩) | (go_at_call 72; (refine (impl_areRunes.calls (k + 1) A4 c4 l4 40 tr _ ?s1 HC4.out HR.out).mono ?_); (case s1 => repeat (first | exact (Kd.C_below HR4.out (by repeat (first | (with_reducible first | exact HB.out | apply below_alloc | apply pw_below_drewN | apply below_drew1 | refine below_set ?_ GZ.out) | exact HB.out))) | (with_reducible refine Kd.C_alloc ?_ _) | (with_reducible refine Kd.C_drewN ?_ _) | (with_reducible refine Kd.C_drew ?_))); rintro e w' ⟨rfl, ⟨nd, rfl⟩⟩) | (go_at_call 134; (with_reducible refine (impl_areAwaited.calls (k + 1) A5 c5 l5 tw _ ?s1 HC5.out HW.out).mono ?_); (case s1 => repeat (first | exact (Kd.C_below HR5.out (by repeat (first | (with_reducible first | exact HB.out | apply below_alloc | apply pw_below_drewN | apply below_drew1 | refine below_set ?_ GZ.out) | exact HB.out))) | (with_reducible refine Kd.C_alloc ?_ _) | (with_reducible refine Kd.C_drewN ?_ _) | (with_reducible refine Kd.C_drew ?_))); rintro e w4 ⟨rfl, hb⟩; have n0_ := Aside0.mk (blk_below (g := gx) (o := .cells #[.int .i64 1, .int .i64 f1, .int .i64 f2, .int .i64 f3, .slice A4 l4.length c4, .slice A5 l5.length c5, .slice A6 l6.length c6] 115 (0, 0)) (by (iterate 5 ((with_reducible repeat (first | refine blk_drewN ?_ _ | refine blk_drew ?_ | refine blk_alloc ?_ _)); refine blk_far ?_ NXZ.out _)); (with_reducible repeat (first | refine blk_drewN ?_ _ | refine blk_drew ?_ | refine blk_alloc ?_ _)); exact BX.out) hb); have n1_ := Aside0.mk (blk_below (g := gy) (o := .cells #[.int .i64 many] 3 (0, 0)) (by (iterate 5 ((with_reducible repeat (first | refine blk_drewN ?_ _ | refine blk_drew ?_ | refine blk_alloc ?_ _)); refine blk_far ?_ NYZ.out _)); (with_reducible repeat (first | refine blk_drewN ?_ _ | refine blk_drew ?_ | refine blk_alloc ?_ _)); exact BY.out) hb); have n2_ := Aside0.mk (below_step (by repeat (first | (with_reducible first | exact HB.out | apply below_alloc | apply pw_below_drewN | apply below_drew1 | refine below_set ?_ GZ.out) | exact HB.out)) hb); clear BX BY HB hb; have BX := n0_; have BY := n1_; have HB := n2_; clear n0_ n1_ n2_; have hv5 := bc5 BX.out; have hv6 := bc6 BX.out; have hu0 := bc0 BY.out) | (go_at_call 113; (with_reducible refine (slices_ContainsFunc_int_int_135.calls (g1 := gy) A6 c6 l6 many tg _ ?s1 HC6.out ?s2 HG.out).mono ?_); (case s1 => repeat (first | exact (Kd.C_below HR6.out (by repeat (first | (with_reducible first | exact HB.out | apply below_alloc | apply pw_below_drewN | apply below_drew1 | refine below_set ?_ GZ.out) | exact HB.out))) | (with_reducible refine Kd.C_alloc ?_ _) | (with_reducible refine Kd.C_drewN ?_ _) | (with_reducible refine Kd.C_drew ?_))); (case s2 => ((with_reducible repeat (first | refine blk_drewN ?_ _ | refine blk_drew ?_ | refine blk_alloc ?_ _)); exact BY.out)); rintro e w' ⟨rfl, ⟨nd, rfl⟩⟩))
  all_goals first | (exfalso; simp_all; done) | (go_ret; exact ⟨by first | (simp [impl_goodIns.G, *]; done) | (simp_all [impl_goodIns.G]; done) | rfl, (by repeat (first | (with_reducible first | exact HB.out | apply below_alloc | apply pw_below_drewN | apply below_drew1 | refine below_set ?_ GZ.out) | exact HB.out))⟩)
set_option maxHeartbeats 16000000 in
set_option maxRecDepth 100000 in
theorem impl_goodIns.k2 (k : Nat) (f1 f2 f3 : Int) (A4 : Option Addr) (c4 : Nat) (l4 : List Int) (A5 : Option Addr) (c5 : Nat) (l5 : List S178) (A6 : Option Addr) (c6 : Nat) (l6 : List Int) (many : Int) (ta tb tt tr tw tg : Bool) (w : World) (hr4 : Kd.C (Kd.int .i64) w A4 l4.length l4) (hc4 : l4.length ≤ c4) (hr5 : Kd.C k178 w A5 l5.length l5) (hc5 : l5.length ≤ c5) (hr6 : Kd.C (Kd.int .i64) w A6 l6.length l6) (hc6 : l6.length ≤ c6) (ha : impl_inRange.f f1 0 1000 = some ta) (hbb : impl_inRange.f f2 (-1000) 1000 = some tb) (ht : impl_inRange.f f3 0 many = some tt) (hrr : impl_areRunes.f (k + 1) l4 40 = some tr) (hw : impl_areAwaited.f (k + 1) l5 = some tw) (hg : slices_ContainsFunc_int_int_135.f l6 many = some tg) :
    Calls Try.prog 88 #[.agg #[.int .i64 2, .int .i64 f1, .int .i64 f2, .int .i64 f3, .slice A4 l4.length c4, .slice A5 l5.length c5, .slice A6 l6.length c6], .int .i64 many] w fun e w' => e = .returned (.bool (impl_goodIns.G (true, false, true, false, true) (f1 == 0) (f2 == 0) (f3 == 0) (decide (0 < (l4.length : Int))) (decide (0 < (wrap64 ((l5.length : Int) + (l6.length : Int))))) ((l6.length : Int) == (l5.length : Int)) ta tb tt tr tw tg)) ∧ Below w.heap.size w w' := by
  have hu := Try.underlying115
  have hv := Try.underlying153
  have HH : Aside0 (impl_hasOf.f (k + 1) 2 = some (true, false, true, false, true)) := ⟨by rfl⟩
  have HK : Aside0 (impl_inRange.f 2 1 7 = some true) := ⟨by rfl⟩
  have HA := Aside0.mk ha
  have HBB := Aside0.mk hbb
  have HT := Aside0.mk ht
  have HR := Aside0.mk hrr
  have HW := Aside0.mk hw
  have HG := Aside0.mk hg
  have HR4 := Aside0.mk hr4
  have HC4 := Aside0.mk hc4
  have HR5 := Aside0.mk hr5
  have HC5 := Aside0.mk hc5
  have HR6 := Aside0.mk hr6
  have HC6 := Aside0.mk hc6
  have hyp_ := trivial
  clear hr4 hc4 hr5 hc5 hr6 hc6 ha hbb ht hrr hw hg
  clear hyp_
  cases l4 with
  | nil =>
    go_enter Try.func88, Try.ntmps88
    go_wp2_with (first | ((with_reducible refine gate_dst (N := 2) rfl ?_); refine box_event ?hg (N := 2) ?hd (cs := #[.int .i64 2, .int .i64 f1, .int .i64 f2, .int .i64 f3, .slice A4 ([] : List Int).length c4, .slice A5 l5.length c5, .slice A6 l6.length c6]) (t := 115) ?hr ?_; (case hd => rfl); (case hg => rfl); (case hr => first | (go_simp; done) | (go_simp; rfl)); intro gx hg w1 hbox hb; have HB := Aside0.mk hb; have BX := Aside0.mk hbox; clear hb hbox hg) | ((with_reducible refine gate_dst (N := 3) rfl ?_); refine box_event ?hg (N := 3) ?hd (cs := #[.int .i64 many]) (t := 3) ?hr ?_; (case hd => rfl); (case hg => rfl); (case hr => first | (go_simp; done) | (go_simp; rfl)); intro gy hg w2 hbox hb; have n0_ := Aside0.mk (blk_below BX.out hb); have n1_ := Aside0.mk (below_step HB.out hb); clear BX HB; have BX := n0_; have HB := n1_; have BY := Aside0.mk hbox; clear n0_ n1_ hb hbox hg; have hx0 := bc0 BX.out; have hx1 := bc1 BX.out; have hx2 := bc2 BX.out; have hx3 := bc3 BX.out; have hx4 := bc4 BX.out; have hx5 := bc5 BX.out; have hx6 := bc6 BX.out) | (go_at_call 133; (with_reducible refine (impl_hasOf.calls (k + 1) 2 true false true false true _ HH.out).mono ?_); rintro e w9 ⟨rfl, hb⟩; have n0_ := Aside0.mk (blk_below BX.out hb); have n1_ := Aside0.mk (blk_below BY.out hb); have n2_ := Aside0.mk (below_step HB.out hb); clear BX BY HB; have BX := n0_; have BY := n1_; have HB := n2_; clear n0_ n1_ n2_ hb) | ((with_reducible refine gate_dst (N := 5) rfl ?_); refine box_event ?hg (N := 5) ?hd (cs := #[.bool false, .bool false, .bool false, .bool false, .bool false]) (t := 153) ?hr ?_; (case hd => rfl); (case hg => rfl); (case hr => first | (go_simp; done) | (go_simp; rfl)); intro gz hg w3 hbox hb; have NXZ := Aside0.mk (by rw [hg]; exact Nat.ne_of_lt (blk_lt BX.out) : gx ≠ gz); have NYZ := Aside0.mk (by rw [hg]; exact Nat.ne_of_lt (blk_lt BY.out) : gy ≠ gz); have GZ := Aside0.mk (by rw [hg]; exact below_size HB.out : w.heap.size ≤ gz); have n0_ := Aside0.mk (blk_below BX.out hb); have n1_ := Aside0.mk (blk_below BY.out hb); have n2_ := Aside0.mk (below_step HB.out hb); clear BX BY HB; have BX := n0_; have BY := n1_; have HB := n2_; have BZ := Aside0.mk hbox; clear n0_ n1_ n2_ hb hbox hg; have hnxz := NXZ.out; have hnyz := NYZ.out; have hnzx := Ne.symm NXZ.out; have hnzy := Ne.symm NYZ.out; have hx0 := bc0 BX.out; have hx1 := bc1 BX.out; have hx2 := bc2 BX.out; have hx3 := bc3 BX.out; have hx4 := bc4 BX.out; have hx5 := bc5 BX.out; have hx6 := bc6 BX.out; have hy0 := bc0 BY.out; have hz0 := bc0 BZ.out; have hz1 := bc1 BZ.out; have hz2 := bc2 BZ.out; have hz3 := bc3 BZ.out; have hz4 := bc4 BZ.out; have hf0 := blk_frozen BZ.out 0; have hf1 := blk_frozen BZ.out 1; have hf2 := blk_frozen BZ.out 2; have hf3 := blk_frozen BZ.out 3; have hf4 := blk_frozen BZ.out 4) | (go_at_call 68; (with_reducible refine (impl_inRange.calls 2 1 7 true _ HK.out).mono ?_); rintro e w' ⟨rfl, ⟨nd, rfl⟩⟩) | (go_at_call 68; (with_reducible refine (impl_inRange.calls _ 0 1000 ta _ (by first | exact HA.out | (have h_ := HA.out; rw [‹f1 = 0›] at h_; exact h_))).mono ?_); rintro e w' ⟨rfl, ⟨nd, rfl⟩⟩) | (go_at_call 68; (with_reducible refine (impl_inRange.calls _ (-1000) 1000 tb _ (by first | exact HBB.out | (have h_ := HBB.out; rw [‹f2 = 0›] at h_; exact h_))).mono ?_); rintro e w' ⟨rfl, ⟨nd, rfl⟩⟩) | (go_at_call 68; (with_reducible refine (impl_inRange.calls _ 0 many tt _ (by first | exact HT.out | (have h_ := HT.out; rw [‹f3 = 0›] at h_; exact h_))).mono ?_); rintro e w' ⟨rfl, ⟨nd, rfl⟩⟩) | (go_at_call 72; (refine (impl_areRunes.calls (k + 1) A4 c4 ([] : List Int) 40 tr _ ?s1 HC4.out HR.out).mono ?_); (case s1 => repeat (first | exact (Kd.C_below HR4.out (by repeat (first | (with_reducible first | exact HB.out | apply below_alloc | apply pw_below_drewN | apply below_drew1 | refine below_set ?_ GZ.out) | exact HB.out))) | (with_reducible refine Kd.C_alloc ?_ _) | (with_reducible refine Kd.C_drewN ?_ _) | (with_reducible refine Kd.C_drew ?_))); rintro e w' ⟨rfl, ⟨nd, rfl⟩⟩) | (go_at_call 134; (with_reducible refine (impl_areAwaited.calls (k + 1) A5 c5 l5 tw _ ?s1 HC5.out HW.out).mono ?_); (case s1 => repeat (first | exact (Kd.C_below HR5.out (by repeat (first | (with_reducible first | exact HB.out | apply below_alloc | apply pw_below_drewN | apply below_drew1 | refine below_set ?_ GZ.out) | exact HB.out))) | (with_reducible refine Kd.C_alloc ?_ _) | (with_reducible refine Kd.C_drewN ?_ _) | (with_reducible refine Kd.C_drew ?_))); rintro e w4 ⟨rfl, hb⟩; have n0_ := Aside0.mk (blk_below (g := gx) (o := .cells #[.int .i64 2, .int .i64 f1, .int .i64 f2, .int .i64 f3, .slice A4 ([] : List Int).length c4, .slice A5 l5.length c5, .slice A6 l6.length c6] 115 (0, 0)) (by (iterate 5 ((with_reducible repeat (first | refine blk_drewN ?_ _ | refine blk_drew ?_ | refine blk_alloc ?_ _)); refine blk_far ?_ NXZ.out _)); (with_reducible repeat (first | refine blk_drewN ?_ _ | refine blk_drew ?_ | refine blk_alloc ?_ _)); exact BX.out) hb); have n1_ := Aside0.mk (blk_below (g := gy) (o := .cells #[.int .i64 many] 3 (0, 0)) (by (iterate 5 ((with_reducible repeat (first | refine blk_drewN ?_ _ | refine blk_drew ?_ | refine blk_alloc ?_ _)); refine blk_far ?_ NYZ.out _)); (with_reducible repeat (first | refine blk_drewN ?_ _ | refine blk_drew ?_ | refine blk_alloc ?_ _)); exact BY.out) hb); have n2_ := Aside0.mk (below_step (by repeat (first | (with_reducible first | exact HB.out | apply below_alloc | apply pw_below_drewN | apply below_drew1 | refine below_set ?_ GZ.out) | exact HB.out)) hb); clear BX BY HB hb; have BX := n0_; have BY := n1_; have HB := n2_; clear n0_ n1_ n2_; have hv5 := bc5 BX.out; have hv6 := bc6 BX.out; have hu0 := bc0 BY.out) | (go_at_call 113; (with_reducible refine (slices_ContainsFunc_int_int_135.calls (g1 := gy) A6 c6 l6 many tg _ ?s1 HC6.out ?s2 HG.out).mono ?_); (case s1 => repeat (first | exact (Kd.C_below HR6.out (by repeat (first | (with_reducible first | exact HB.out | apply below_alloc | apply pw_below_drewN | apply below_drew1 | refine below_set ?_ GZ.out) | exact HB.out))) | (with_reducible refine Kd.C_alloc ?_ _) | (with_reducible refine Kd.C_drewN ?_ _) | (with_reducible refine Kd.C_drew ?_))); (case s2 => ((with_reducible repeat (first | refine blk_drewN ?_ _ | refine blk_drew ?_ | refine blk_alloc ?_ _)); exact BY.out)); rintro e w' ⟨rfl, ⟨nd, rfl⟩⟩))
    all_goals first | (exfalso; simp_all; done) | (go_ret; exact ⟨by first | (simp [impl_goodIns.G, *]; done) | (simp_all [impl_goodIns.G]; done) | rfl, (by repeat (first | (with_reducible first | exact HB.out | apply below_alloc | apply pw_below_drewN | apply below_drew1 | refine below_set ?_ GZ.out) | exact HB.out))⟩)
  | cons x4 l4 =>
    go_enter Try.func88, Try.ntmps88
    go_wp2_with (first | ((with_reducible refine gate_dst (N := 2) rfl ?_); refine box_event ?hg (N := 2) ?hd (cs := #[.int .i64 2, .int .i64 f1, .int .i64 f2, .int .i64 f3, .slice A4 (x4 :: l4).length c4, .slice A5 l5.length c5, .slice A6 l6.length c6]) (t := 115) ?hr ?_; (case hd => rfl); (case hg => rfl); (case hr => first | (go_simp; done) | (go_simp; rfl)); intro gx hg w1 hbox hb; have HB := Aside0.mk hb; have BX := Aside0.mk hbox; clear hb hbox hg) | ((with_reducible refine gate_dst (N := 3) rfl ?_); refine box_event ?hg (N := 3) ?hd (cs := #[.int .i64 many]) (t := 3) ?hr ?_; (case hd => rfl); (case hg => rfl); (case hr => first | (go_simp; done) | (go_simp; rfl)); intro gy hg w2 hbox hb; have n0_ := Aside0.mk (blk_below BX.out hb); have n1_ := Aside0.mk (below_step HB.out hb); clear BX HB; have BX := n0_; have HB := n1_; have BY := Aside0.mk hbox; clear n0_ n1_ hb hbox hg; have hx0 := bc0 BX.out; have hx1 := bc1 BX.out; have hx2 := bc2 BX.out; have hx3 := bc3 BX.out; have hx4 := bc4 BX.out; have hx5 := bc5 BX.out; have hx6 := bc6 BX.out) | (go_at_call 133; (with_reducible refine (impl_hasOf.calls (k + 1) 2 true false true false true _ HH.out).mono ?_); rintro e w9 ⟨rfl, hb⟩; have n0_ := Aside0.mk (blk_below BX.out hb); have n1_ := Aside0.mk (blk_below BY.out hb); have n2_ := Aside0.mk (below_step HB.out hb); clear BX BY HB; have BX := n0_; have BY := n1_; have HB := n2_; clear n0_ n1_ n2_ hb) | ((with_reducible refine gate_dst (N := 5) rfl ?_); refine box_event ?hg (N := 5) ?hd (cs := #[.bool false, .bool false, .bool false, .bool false, .bool false]) (t := 153) ?hr ?_; (case hd => rfl); (case hg => rfl); (case hr => first | (go_simp; done) | (go_simp; rfl)); intro gz hg w3 hbox hb; have NXZ := Aside0.mk (by rw [hg]; exact Nat.ne_of_lt (blk_lt BX.out) : gx ≠ gz); have NYZ := Aside0.mk (by rw [hg]; exact Nat.ne_of_lt (blk_lt BY.out) : gy ≠ gz); have GZ := Aside0.mk (by rw [hg]; exact below_size HB.out : w.heap.size ≤ gz); have n0_ := Aside0.mk (blk_below BX.out hb); have n1_ := Aside0.mk (blk_below BY.out hb); have n2_ := Aside0.mk (below_step HB.out hb); clear BX BY HB; have BX := n0_; have BY := n1_; have HB := n2_; have BZ := Aside0.mk hbox; clear n0_ n1_ n2_ hb hbox hg; have hnxz := NXZ.out; have hnyz := NYZ.out; have hnzx := Ne.symm NXZ.out; have hnzy := Ne.symm NYZ.out; have hx0 := bc0 BX.out; have hx1 := bc1 BX.out; have hx2 := bc2 BX.out; have hx3 := bc3 BX.out; have hx4 := bc4 BX.out; have hx5 := bc5 BX.out; have hx6 := bc6 BX.out; have hy0 := bc0 BY.out; have hz0 := bc0 BZ.out; have hz1 := bc1 BZ.out; have hz2 := bc2 BZ.out; have hz3 := bc3 BZ.out; have hz4 := bc4 BZ.out; have hf0 := blk_frozen BZ.out 0; have hf1 := blk_frozen BZ.out 1; have hf2 := blk_frozen BZ.out 2; have hf3 := blk_frozen BZ.out 3; have hf4 := blk_frozen BZ.out 4) | (go_at_call 68; (with_reducible refine (impl_inRange.calls 2 1 7 true _ HK.out).mono ?_); rintro e w' ⟨rfl, ⟨nd, rfl⟩⟩))
    all_goals first | (exfalso; simp_all; done) | (go_ret; exact ⟨by first | (simp [impl_goodIns.G, *]; done) | (simp_all [impl_goodIns.G]; done) | rfl, (by repeat (first | (with_reducible first | exact HB.out | apply below_alloc | apply pw_below_drewN | apply below_drew1 | refine below_set ?_ GZ.out) | exact HB.out))⟩)
set_option maxHeartbeats 16000000 in
set_option maxRecDepth 100000 in
theorem impl_goodIns.k3 (k : Nat) (f1 f2 f3 : Int) (A4 : Option Addr) (c4 : Nat) (l4 : List Int) (A5 : Option Addr) (c5 : Nat) (l5 : List S178) (A6 : Option Addr) (c6 : Nat) (l6 : List Int) (many : Int) (ta tb tt tr tw tg : Bool) (w : World) (hr4 : Kd.C (Kd.int .i64) w A4 l4.length l4) (hc4 : l4.length ≤ c4) (hr5 : Kd.C k178 w A5 l5.length l5) (hc5 : l5.length ≤ c5) (hr6 : Kd.C (Kd.int .i64) w A6 l6.length l6) (hc6 : l6.length ≤ c6) (ha : impl_inRange.f f1 0 3 = some ta) (hbb : impl_inRange.f f2 (-1000) 1000 = some tb) (ht : impl_inRange.f f3 0 many = some tt) (hrr : impl_areRunes.f (k + 1) l4 40 = some tr) (hw : impl_areAwaited.f (k + 1) l5 = some tw) (hg : slices_ContainsFunc_int_int_135.f l6 many = some tg) :
    Calls Try.prog 88 #[.agg #[.int .i64 3, .int .i64 f1, .int .i64 f2, .int .i64 f3, .slice A4 l4.length c4, .slice A5 l5.length c5, .slice A6 l6.length c6], .int .i64 many] w fun e w' => e = .returned (.bool (impl_goodIns.G (true, true, false, false, false) (f1 == 0) (f2 == 0) (f3 == 0) (decide (0 < (l4.length : Int))) (decide (0 < (wrap64 ((l5.length : Int) + (l6.length : Int))))) ((l6.length : Int) == (l5.length : Int)) ta tb tt tr tw tg)) ∧ Below w.heap.size w w' := by
  have hu := Try.underlying115
  have hv := Try.underlying153
  have HH : Aside0 (impl_hasOf.f (k + 1) 3 = some (true, true, false, false, false)) := ⟨by rfl⟩
  have HK : Aside0 (impl_inRange.f 3 1 7 = some true) := ⟨by rfl⟩
  have HA := Aside0.mk ha
  have HBB := Aside0.mk hbb
  have HT := Aside0.mk ht
  have HR := Aside0.mk hrr
  have HW := Aside0.mk hw
  have HG := Aside0.mk hg
  have HR4 := Aside0.mk hr4
  have HC4 := Aside0.mk hc4
  have HR5 := Aside0.mk hr5
  have HC5 := Aside0.mk hc5
  have HR6 := Aside0.mk hr6
  have HC6 := Aside0.mk hc6
  have hyp_ := trivial
  clear hr4 hc4 hr5 hc5 hr6 hc6 ha hbb ht hrr hw hg
  clear hyp_
  cases l4 with
  | nil =>
    go_enter Try.func88, Try.ntmps88
    go_wp2_with (first | ((with_reducible refine gate_dst (N := 2) rfl ?_); refine box_event ?hg (N := 2) ?hd (cs := #[.int .i64 3, .int .i64 f1, .int .i64 f2, .int .i64 f3, .slice A4 ([] : List Int).length c4, .slice A5 l5.length c5, .slice A6 l6.length c6]) (t := 115) ?hr ?_; (case hd => rfl); (case hg => rfl); (case hr => first | (go_simp; done) | (go_simp; rfl)); intro gx hg w1 hbox hb; have HB := Aside0.mk hb; have BX := Aside0.mk hbox; clear hb hbox hg) | ((with_reducible refine gate_dst (N := 3) rfl ?_); refine box_event ?hg (N := 3) ?hd (cs := #[.int .i64 many]) (t := 3) ?hr ?_; (case hd => rfl); (case hg => rfl); (case hr => first | (go_simp; done) | (go_simp; rfl)); intro gy hg w2 hbox hb; have n0_ := Aside0.mk (blk_below BX.out hb); have n1_ := Aside0.mk (below_step HB.out hb); clear BX HB; have BX := n0_; have HB := n1_; have BY := Aside0.mk hbox; clear n0_ n1_ hb hbox hg; have hx0 := bc0 BX.out; have hx1 := bc1 BX.out; have hx2 := bc2 BX.out; have hx3 := bc3 BX.out; have hx4 := bc4 BX.out; have hx5 := bc5 BX.out; have hx6 := bc6 BX.out) | (go_at_call 133; (with_reducible refine (impl_hasOf.calls (k + 1) 3 true true false false false _ HH.out).mono ?_); rintro e w9 ⟨rfl, hb⟩; have n0_ := Aside0.mk (blk_below BX.out hb); have n1_ := Aside0.mk (blk_below BY.out hb); have n2_ := Aside0.mk (below_step HB.out hb); clear BX BY HB; have BX := n0_; have BY := n1_; have HB := n2_; clear n0_ n1_ n2_ hb) | ((with_reducible refine gate_dst (N := 5) rfl ?_); refine box_event ?hg (N := 5) ?hd (cs := #[.bool false, .bool false, .bool false, .bool false, .bool false]) (t := 153) ?hr ?_; (case hd => rfl); (case hg => rfl); (case hr => first | (go_simp; done) | (go_simp; rfl)); intro gz hg w3 hbox hb; have NXZ := Aside0.mk (by rw [hg]; exact Nat.ne_of_lt (blk_lt BX.out) : gx ≠ gz); have NYZ := Aside0.mk (by rw [hg]; exact Nat.ne_of_lt (blk_lt BY.out) : gy ≠ gz); have GZ := Aside0.mk (by rw [hg]; exact below_size HB.out : w.heap.size ≤ gz); have n0_ := Aside0.mk (blk_below BX.out hb); have n1_ := Aside0.mk (blk_below BY.out hb); have n2_ := Aside0.mk (below_step HB.out hb); clear BX BY HB; have BX := n0_; have BY := n1_; have HB := n2_; have BZ := Aside0.mk hbox; clear n0_ n1_ n2_ hb hbox hg; have hnxz := NXZ.out; have hnyz := NYZ.out; have hnzx := Ne.symm NXZ.out; have hnzy := Ne.symm NYZ.out; have hx0 := bc0 BX.out; have hx1 := bc1 BX.out; have hx2 := bc2 BX.out; have hx3 := bc3 BX.out; have hx4 := bc4 BX.out; have hx5 := bc5 BX.out; have hx6 := bc6 BX.out; have hy0 := bc0 BY.out; have hz0 := bc0 BZ.out; have hz1 := bc1 BZ.out; have hz2 := bc2 BZ.out; have hz3 := bc3 BZ.out; have hz4 := bc4 BZ.out; have hf0 := blk_frozen BZ.out 0; have hf1 := blk_frozen BZ.out 1; have hf2 := blk_frozen BZ.out 2; have hf3 := blk_frozen BZ.out 3; have hf4 := blk_frozen BZ.out 4) | (go_at_call 68; (with_reducible refine (impl_inRange.calls 3 1 7 true _ HK.out).mono ?_); rintro e w' ⟨rfl, ⟨nd, rfl⟩⟩) | (go_at_call 68; (with_reducible refine (impl_inRange.calls _ 0 3 ta _ (by first | exact HA.out | (have h_ := HA.out; rw [‹f1 = 0›] at h_; exact h_))).mono ?_); rintro e w' ⟨rfl, ⟨nd, rfl⟩⟩) | (go_at_call 68; (with_reducible refine (impl_inRange.calls _ (-1000) 1000 tb _ (by first | exact HBB.out | (have h_ := HBB.out; rw [‹f2 = 0›] at h_; exact h_))).mono ?_); rintro e w' ⟨rfl, ⟨nd, rfl⟩⟩) | (go_at_call 68; (with_reducible refine (impl_inRange.calls _ 0 many tt _ (by first | exact HT.out | (have h_ := HT.out; rw [‹f3 = 0›] at h_; exact h_))).mono ?_); rintro e w' ⟨rfl, ⟨nd, rfl⟩⟩) | (go_at_call 72; (refine (impl_areRunes.calls (k + 1) A4 c4 ([] : List Int) 40 tr _ ?s1 HC4.out HR.out).mono ?_); (case s1 => repeat (first | exact (Kd.C_below HR4.out (by repeat (first | (with_reducible first | exact HB.out | apply below_alloc | apply pw_below_drewN | apply below_drew1 | refine below_set ?_ GZ.out) | exact HB.out))) | (with_reducible refine Kd.C_alloc ?_ _) | (with_reducible refine Kd.C_drewN ?_ _) | (with_reducible refine Kd.C_drew ?_))); rintro e w' ⟨rfl, ⟨nd, rfl⟩⟩) | (go_at_call 134; (with_reducible refine (impl_areAwaited.calls (k + 1) A5 c5 l5 tw _ ?s1 HC5.out HW.out).mono ?_); (case s1 => repeat (first | exact (Kd.C_below HR5.out (by repeat (first | (with_reducible first | exact HB.out | apply below_alloc | apply pw_below_drewN | apply below_drew1 | refine below_set ?_ GZ.out) | exact HB.out))) | (with_reducible refine Kd.C_alloc ?_ _) | (with_reducible refine Kd.C_drewN ?_ _) | (with_reducible refine Kd.C_drew ?_))); rintro e w4 ⟨rfl, hb⟩; have n0_ := Aside0.mk (blk_below (g := gx) (o := .cells #[.int .i64 3, .int .i64 f1, .int .i64 f2, .int .i64 f3, .slice A4 ([] : List Int).length c4, .slice A5 l5.length c5, .slice A6 l6.length c6] 115 (0, 0)) (by (iterate 5 ((with_reducible repeat (first | refine blk_drewN ?_ _ | refine blk_drew ?_ | refine blk_alloc ?_ _)); refine blk_far ?_ NXZ.out _)); (with_reducible repeat (first | refine blk_drewN ?_ _ | refine blk_drew ?_ | refine blk_alloc ?_ _)); exact BX.out) hb); have n1_ := Aside0.mk (blk_below (g := gy) (o := .cells #[.int .i64 many] 3 (0, 0)) (by (iterate 5 ((with_reducible repeat (first | refine blk_drewN ?_ _ | refine blk_drew ?_ | refine blk_alloc ?_ _)); refine blk_far ?_ NYZ.out _)); (with_reducible repeat (first | refine blk_drewN ?_ _ | refine blk_drew ?_ | refine blk_alloc ?_ _)); exact BY.out) hb); have n2_ := Aside0.mk (below_step (by repeat (first | (with_reducible first | exact HB.out | apply below_alloc | apply pw_below_drewN | apply below_drew1 | refine below_set ?_ GZ.out) | exact HB.out)) hb); clear BX BY HB hb; have BX := n0_; have BY := n1_; have HB := n2_; clear n0_ n1_ n2_; have hv5 := bc5 BX.out; have hv6 := bc6 BX.out; have hu0 := bc0 BY.out) | (go_at_call 113; (with_reducible refine (slices_ContainsFunc_int_int_135.calls (g1 := gy) A6 c6 l6 many tg _ ?s1 HC6.out ?s2 HG.out).mono ?_); (case s1 => repeat (first | exact (Kd.C_below HR6.out (by repeat (first | (with_reducible first | exact HB.out | apply below_alloc | apply pw_below_drewN | apply below_drew1 | refine below_set ?_ GZ.out) | exact HB.out))) | (with_reducible refine Kd.C_alloc ?_ _) | (with_reducible refine Kd.C_drewN ?_ _) | (with_reducible refine Kd.C_drew ?_))); (case s2 => ((with_reducible repeat (first | refine blk_drewN ?_ _ | refine blk_drew ?_ | refine blk_alloc ?_ _)); exact BY.out)); rintro e w' ⟨rfl, ⟨nd, rfl⟩⟩))
    all_goals first | (exfalso; simp_all; done) | (go_ret; exact ⟨by first | (simp [impl_goodIns.G, *]; done) | (simp_all [impl_goodIns.G]; done) | rfl, (by repeat (first | (with_reducible first | exact HB.out | apply below_alloc | apply pw_below_drewN | apply below_drew1 | refine below_set ?_ GZ.out) | exact HB.out))⟩)
  | cons x4 l4 =>
    go_enter Try.func88, Try.ntmps88
    go_wp2_with (first | ((with_reducible refine gate_dst (N := 2) rfl ?_); refine box_event ?hg (N := 2) ?hd (cs := #[.int .i64 3, .int .i64 f1, .int .i64 f2, .int .i64 f3, .slice A4 (x4 :: l4).length c4, .slice A5 l5.length c5, .slice A6 l6.length c6]) (t := 115) ?hr ?_; (case hd => rfl); (case hg => rfl); (case hr => first | (go_simp; done) | (go_simp; rfl)); intro gx hg w1 hbox hb; have HB := Aside0.mk hb; have BX := Aside0.mk hbox; clear hb hbox hg) | ((with_reducible refine gate_dst (N := 3) rfl ?_); refine box_event ?hg (N := 3) ?hd (cs := #[.int .i64 many]) (t := 3) ?hr ?_; (case hd => rfl); (case hg => rfl); (case hr => first | (go_simp; done) | (go_simp; rfl)); intro gy hg w2 hbox hb; have n0_ := Aside0.mk (blk_below BX.out hb); have n1_ := Aside0.mk (below_step HB.out hb); clear BX HB; have BX := n0_; have HB := n1_; have BY := Aside0.mk hbox; clear n0_ n1_ hb hbox hg; have hx0 := bc0 BX.out; have hx1 := bc1 BX.out; have hx2 := bc2 BX.out; have hx3 := bc3 BX.out; have hx4 := bc4 BX.out; have hx5 := bc5 BX.out; have hx6 := bc6 BX.out) | (go_at_call 133; (with_reducible refine (impl_hasOf.calls (k + 1) 3 true true false false false _ HH.out).mono ?_); rintro e w9 ⟨rfl, hb⟩; have n0_ := Aside0.mk (blk_below BX.out hb); have n1_ := Aside0.mk (blk_below BY.out hb); have n2_ := Aside0.mk (below_step HB.out hb); clear BX BY HB; have BX := n0_; have BY := n1_; have HB := n2_; clear n0_ n1_ n2_ hb) | ((with_reducible refine gate_dst (N := 5) rfl ?_); refine box_event ?hg (N := 5) ?hd (cs := #[.bool false, .bool false, .bool false, .bool false, .bool false]) (t := 153) ?hr ?_; (case hd => rfl); (case hg => rfl); (case hr => first | (go_simp; done) | (go_simp; rfl)); intro gz hg w3 hbox hb; have NXZ := Aside0.mk (by rw [hg]; exact Nat.ne_of_lt (blk_lt BX.out) : gx ≠ gz); have NYZ := Aside0.mk (by rw [hg]; exact Nat.ne_of_lt (blk_lt BY.out) : gy ≠ gz); have GZ := Aside0.mk (by rw [hg]; exact below_size HB.out : w.heap.size ≤ gz); have n0_ := Aside0.mk (blk_below BX.out hb); have n1_ := Aside0.mk (blk_below BY.out hb); have n2_ := Aside0.mk (below_step HB.out hb); clear BX BY HB; have BX := n0_; have BY := n1_; have HB := n2_; have BZ := Aside0.mk hbox; clear n0_ n1_ n2_ hb hbox hg; have hnxz := NXZ.out; have hnyz := NYZ.out; have hnzx := Ne.symm NXZ.out; have hnzy := Ne.symm NYZ.out; have hx0 := bc0 BX.out; have hx1 := bc1 BX.out; have hx2 := bc2 BX.out; have hx3 := bc3 BX.out; have hx4 := bc4 BX.out; have hx5 := bc5 BX.out; have hx6 := bc6 BX.out; have hy0 := bc0 BY.out; have hz0 := bc0 BZ.out; have hz1 := bc1 BZ.out; have hz2 := bc2 BZ.out; have hz3 := bc3 BZ.out; have hz4 := bc4 BZ.out; have hf0 := blk_frozen BZ.out 0; have hf1 := blk_frozen BZ.out 1; have hf2 := blk_frozen BZ.out 2; have hf3 := blk_frozen BZ.out 3; have hf4 := blk_frozen BZ.out 4) | (go_at_call 68; (with_reducible refine (impl_inRange.calls 3 1 7 true _ HK.out).mono ?_); rintro e w' ⟨rfl, ⟨nd, rfl⟩⟩))
    all_goals first | (exfalso; simp_all; done) | (go_ret; exact ⟨by first | (simp [impl_goodIns.G, *]; done) | (simp_all [impl_goodIns.G]; done) | rfl, (by repeat (first | (with_reducible first | exact HB.out | apply below_alloc | apply pw_below_drewN | apply below_drew1 | refine below_set ?_ GZ.out) | exact HB.out))⟩)
set_option maxHeartbeats 16000000 in
set_option maxRecDepth 100000 in
theorem impl_goodIns.k4 (k : Nat) (f1 f2 f3 : Int) (A4 : Option Addr) (c4 : Nat) (l4 : List Int) (A5 : Option Addr) (c5 : Nat) (l5 : List S178) (A6 : Option Addr) (c6 : Nat) (l6 : List Int) (many : Int) (ta tb tt tr tw tg : Bool) (w : World) (hr4 : Kd.C (Kd.int .i64) w A4 l4.length l4) (hc4 : l4.length ≤ c4) (hr5 : Kd.C k178 w A5 l5.length l5) (hc5 : l5.length ≤ c5) (hr6 : Kd.C (Kd.int .i64) w A6 l6.length l6) (hc6 : l6.length ≤ c6) (ha : impl_inRange.f f1 0 3 = some ta) (hbb : impl_inRange.f f2 (-1000) 1000 = some tb) (ht : impl_inRange.f f3 0 many = some tt) (hrr : impl_areRunes.f (k + 1) l4 40 = some tr) (hw : impl_areAwaited.f (k + 1) l5 = some tw) (hg : slices_ContainsFunc_int_int_135.f l6 many = some tg) :
    Calls Try.prog 88 #[.agg #[.int .i64 4, .int .i64 f1, .int .i64 f2, .int .i64 f3, .slice A4 l4.length c4, .slice A5 l5.length c5, .slice A6 l6.length c6], .int .i64 many] w fun e w' => e = .returned (.bool (impl_goodIns.G (true, true, false, false, false) (f1 == 0) (f2 == 0) (f3 == 0) (decide (0 < (l4.length : Int))) (decide (0 < (wrap64 ((l5.length : Int) + (l6.length : Int))))) ((l6.length : Int) == (l5.length : Int)) ta tb tt tr tw tg)) ∧ Below w.heap.size w w' := by
  have hu := Try.underlying115
  have hv := Try.underlying153
  have HH : Aside0 (impl_hasOf.f (k + 1) 4 = some (true, true, false, false, false)) := ⟨by rfl⟩
  have HK : Aside0 (impl_inRange.f 4 1 7 = some true) := ⟨by rfl⟩
  have HA := Aside0.mk ha
  have HBB := Aside0.mk hbb
  have HT := Aside0.mk ht
  have HR := Aside0.mk hrr
  have HW := Aside0.mk hw
  have HG := Aside0.mk hg
  have HR4 := Aside0.mk hr4
  have HC4 := Aside0.mk hc4
  have HR5 := Aside0.mk hr5
  have HC5 := Aside0.mk hc5
  have HR6 := Aside0.mk hr6
  have HC6 := Aside0.mk hc6
  have hyp_ := trivial
  clear hr4 hc4 hr5 hc5 hr6 hc6 ha hbb ht hrr hw hg
  clear hyp_
  cases l4 with
  | nil =>
    go_enter Try.func88, Try.ntmps88
    go_wp2_with (first | ((with_reducible refine gate_dst (N := 2) rfl ?_); refine box_event ?hg (N := 2) ?hd (cs := #[.int .i64 4, .int .i64 f1, .int .i64 f2, .int .i64 f3, .slice A4 ([] : List Int).length c4, .slice A5 l5.length c5, .slice A6 l6.length c6]) (t := 115) ?hr ?_; (case hd => rfl); (case hg => rfl); (case hr => first | (go_simp; done) | (go_simp; rfl)); intro gx hg w1 hbox hb; have HB := Aside0.mk hb; have BX := Aside0.mk hbox; clear hb hbox hg) | ((with_reducible refine gate_dst (N := 3) rfl ?_); refine box_event ?hg (N := 3) ?hd (cs := #[.int .i64 many]) (t := 3) ?hr ?_; (case hd => rfl); (case hg => rfl); (case hr => first | (go_simp; done) | (go_simp; rfl)); intro gy hg w2 hbox hb; have n0_ := Aside0.mk (blk_below BX.out hb); have n1_ := Aside0.mk (below_step HB.out hb); clear BX HB; have BX := n0_; have HB := n1_; have BY := Aside0.mk hbox; clear n0_ n1_ hb hbox hg; have hx0 := bc0 BX.out; have hx1 := bc1 BX.out; have hx2 := bc2 BX.out; have hx3 := bc3 BX.out; have hx4 := bc4 BX.out; have hx5 := bc5 BX.out; have hx6 := bc6 BX.out) | (go_at_call 133; (with_reducible refine (impl_hasOf.calls (k + 1) 4 true true false false false _ HH.out).mono ?_); rintro e w9 ⟨rfl, hb⟩; have n0_ := Aside0.mk (blk_below BX.out hb); have n1_ := Aside0.mk (blk_below BY.out hb); have n2_ := Aside0.mk (below_step HB.out hb); clear BX BY HB; have BX := n0_; have BY := n1_; have HB := n2_; clear n0_ n1_ n2_ hb) | ((with_reducible refine gate_dst (N := 5) rfl ?_); refine box_event ?hg (N := 5) ?hd (cs := #[.bool false, .bool false, .bool false, .bool false, .bool false]) (t := 153) ?hr ?_; (case hd => rfl); (case hg => rfl); (case hr => first | (go_simp; done) | (go_simp; rfl)); intro gz hg w3 hbox hb; have NXZ := Aside0.mk (by rw [hg]; exact Nat.ne_of_lt (blk_lt BX.out) : gx ≠ gz); have NYZ := Aside0.mk (by rw [hg]; exact Nat.ne_of_lt (blk_lt BY.out) : gy ≠ gz); have GZ := Aside0.mk (by rw [hg]; exact below_size HB.out : w.heap.size ≤ gz); have n0_ := Aside0.mk (blk_below BX.out hb); have n1_ := Aside0.mk (blk_below BY.out hb); have n2_ := Aside0.mk (below_step HB.out hb); clear BX BY HB; have BX := n0_; have BY := n1_; have HB := n2_; have BZ := Aside0.mk hbox; clear n0_ n1_ n2_ hb hbox hg; have hnxz := NXZ.out; have hnyz := NYZ.out; have hnzx := Ne.symm NXZ.out; have hnzy := Ne.symm NYZ.out; have hx0 := bc0 BX.out; have hx1 := bc1 BX.out; have hx2 := bc2 BX.out; have hx3 := bc3 BX.out; have hx4 := bc4 BX.out; have hx5 := bc5 BX.out; have hx6 := bc6 BX.out; have hy0 := bc0 BY.out; have hz0 := bc0 BZ.out; have hz1 := bc1 BZ.out; have hz2 := bc2 BZ.out; have hz3 := bc3 BZ.out; have hz4 := bc4 BZ.out; have hf0 := blk_frozen BZ.out 0; have hf1 := blk_frozen BZ.out 1; have hf2 := blk_frozen BZ.out 2; have hf3 := blk_frozen BZ.out 3; have hf4 := blk_frozen BZ.out 4) | (go_at_call 68; (with_reducible refine (impl_inRange.calls 4 1 7 true _ HK.out).mono ?_); rintro e w' ⟨rfl, ⟨nd, rfl⟩⟩) | (go_at_call 68; (with_reducible refine (impl_inRange.calls _ 0 3 ta _ (by first | exact HA.out | (have h_ := HA.out; rw [‹f1 = 0›] at h_; exact h_))).mono ?_); rintro e w' ⟨rfl, ⟨nd, rfl⟩⟩) | (go_at_call 68; (with_reducible refine (impl_inRange.calls _ (-1000) 1000 tb _ (by first | exact HBB.out | (have h_ := HBB.out; rw [‹f2 = 0›] at h_; exact h_))).mono ?_); rintro e w' ⟨rfl, ⟨nd, rfl⟩⟩) | (go_at_call 68; (with_reducible refine (impl_inRange.calls _ 0 many tt _ (by first | exact HT.out | (have h_ := HT.out; rw [‹f3 = 0›] at h_; exact h_))).mono ?_); rintro e w' ⟨rfl, ⟨nd, rfl⟩⟩) | (go_at_call 72; (refine (impl_areRunes.calls (k + 1) A4 c4 ([] : List Int) 40 tr _ ?s1 HC4.out HR.out).mono ?_); (case s1 => repeat (first | exact (Kd.C_below HR4.out (by repeat (first | (with_reducible first | exact HB.out | apply below_alloc | apply pw_below_drewN | apply below_drew1 | refine below_set ?_ GZ.out) | exact HB.out))) | (with_reducible refine Kd.C_alloc ?_ _) | (with_reducible refine Kd.C_drewN ?_ _) | (with_reducible refine Kd.C_drew ?_))); rintro e w' ⟨rfl, ⟨nd, rfl⟩⟩) | (go_at_call 134; (with_reducible refine (impl_areAwaited.calls (k + 1) A5 c5 l5 tw _ ?s1 HC5.out HW.out).mono ?_); (case s1 => repeat (first | exact (Kd.C_below HR5.out (by repeat (first | (with_reducible first | exact HB.out | apply below_alloc | apply pw_below_drewN | apply below_drew1 | refine below_set ?_ GZ.out) | exact HB.out))) | (with_reducible refine Kd.C_alloc ?_ _) | (with_reducible refine Kd.C_drewN ?_ _) | (with_reducible refine Kd.C_drew ?_))); rintro e w4 ⟨rfl, hb⟩; have n0_ := Aside0.mk (blk_below (g := gx) (o := .cells #[.int .i64 4, .int .i64 f1, .int .i64 f2, .int .i64 f3, .slice A4 ([] : List Int).length c4, .slice A5 l5.length c5, .slice A6 l6.length c6] 115 (0, 0)) (by (iterate 5 ((with_reducible repeat (first | refine blk_drewN ?_ _ | refine blk_drew ?_ | refine blk_alloc ?_ _)); refine blk_far ?_ NXZ.out _)); (with_reducible repeat (first | refine blk_drewN ?_ _ | refine blk_drew ?_ | refine blk_alloc ?_ _)); exact BX.out) hb); have n1_ := Aside0.mk (blk_below (g := gy) (o := .cells #[.int .i64 many] 3 (0, 0)) (by (iterate 5 ((with_reducible repeat (first | refine blk_drewN ?_ _ | refine blk_drew ?_ | refine blk_alloc ?_ _)); refine blk_far ?_ NYZ.out _)); (with_reducible repeat (first | refine blk_drewN ?_ _ | refine blk_drew ?_ | refine blk_alloc ?_ _)); exact BY.out) hb); have n2_ := Aside0.mk (below_step (by repeat (first | (with_reducible first | exact HB.out | apply below_alloc | apply pw_below_drewN | apply below_drew1 | refine below_set ?_ GZ.out) | exact HB.out)) hb); clear BX BY HB hb; have BX := n0_; have BY := n1_; have HB := n2_; clear n0_ n1_ n2_; have hv5 := bc5 BX.out; have hv6 := bc6 BX.out; have hu0 := bc0 BY.out) | (go_at_call 113; (with_reducible refine (slices_ContainsFunc_int_int_135.calls (g1 := gy) A6 c6 l6 many tg _ ?s1 HC6.out ?s2 HG.out).mono ?_); (case s1 => repeat (first | exact (Kd.C_below HR6.out (by repeat (first | (with_reducible first | exact HB.out | apply below_alloc | apply pw_below_drewN | apply below_drew1 | refine below_set ?_ GZ.out) | exact HB.out))) | (with_reducible refine Kd.C_alloc ?_ _) | (with_reducible refine Kd.C_drewN ?_ _) | (with_reducible refine Kd.C_drew ?_))); (case s2 => ((with_reducible repeat (first | refine blk_drewN ?_ _ | refine blk_drew ?_ | refine blk_alloc ?_ _)); exact BY.out)); rintro e w' ⟨rfl, ⟨nd, rfl⟩⟩))
    all_goals first | (exfalso; simp_all; done) | (go_ret; exact ⟨by first | (simp [impl_goodIns.G, *]; done) | (simp_all [impl_goodIns.G]; done) | rfl, (by repeat (first | (with_reducible first | exact HB.out | apply below_alloc | apply pw_below_drewN | apply below_drew1 | refine below_set ?_ GZ.out) | exact HB.out))⟩)
  | cons x4 l4 =>
    go_enter Try.func88, Try.ntmps88
    go_wp2_with (first | ((with_reducible refine gate_dst (N := 2) rfl ?_); refine box_event ?hg (N := 2) ?hd (cs := #[.int .i64 4, .int .i64 f1, .int .i64 f2, .int .i64 f3, .slice A4 (x4 :: l4).length c4, .slice A5 l5.length c5, .slice A6 l6.length c6]) (t := 115) ?hr ?_; (case hd => rfl); (case hg => rfl); (case hr => first | (go_simp; done) | (go_simp; rfl)); intro gx hg w1 hbox hb; have HB := Aside0.mk hb; have BX := Aside0.mk hbox; clear hb hbox hg) | ((with_reducible refine gate_dst (N := 3) rfl ?_); refine box_event ?hg (N := 3) ?hd (cs := #[.int .i64 many]) (t := 3) ?hr ?_; (case hd => rfl); (case hg => rfl); (case hr => first | (go_simp; done) | (go_simp; rfl)); intro gy hg w2 hbox hb; have n0_ := Aside0.mk (blk_below BX.out hb); have n1_ := Aside0.mk (below_step HB.out hb); clear BX HB; have BX := n0_; have HB := n1_; have BY := Aside0.mk hbox; clear n0_ n1_ hb hbox hg; have hx0 := bc0 BX.out; have hx1 := bc1 BX.out; have hx2 := bc2 BX.out; have hx3 := bc3 BX.out; have hx4 := bc4 BX.out; have hx5 := bc5 BX.out; have hx6 := bc6 BX.out) | (go_at_call 133; (with_reducible refine (impl_hasOf.calls (k + 1) 4 true true false false false _ HH.out).mono ?_); rintro e w9 ⟨rfl, hb⟩; have n0_ := Aside0.mk (blk_below BX.out hb); have n1_ := Aside0.mk (blk_below BY.out hb); have n2_ := Aside0.mk (below_step HB.out hb); clear BX BY HB; have BX := n0_; have BY := n1_; have HB := n2_; clear n0_ n1_ n2_ hb) | ((with_reducible refine gate_dst (N := 5) rfl ?_); refine box_event ?hg (N := 5) ?hd (cs := #[.bool false, .bool false, .bool false, .bool false, .bool false]) (t := 153) ?hr ?_; (case hd => rfl); (case hg => rfl); (case hr => first | (go_simp; done) | (go_simp; rfl)); intro gz hg w3 hbox hb; have NXZ := Aside0.mk (by rw [hg]; exact Nat.ne_of_lt (blk_lt BX.out) : gx ≠ gz); have NYZ := Aside0.mk (by rw [hg]; exact Nat.ne_of_lt (blk_lt BY.out) : gy ≠ gz); have GZ := Aside0.mk (by rw [hg]; exact below_size HB.out : w.heap.size ≤ gz); have n0_ := Aside0.mk (blk_below BX.out hb); have n1_ := Aside0.mk (blk_below BY.out hb); have n2_ := Aside0.mk (below_step HB.out hb); clear BX BY HB; have BX := n0_; have BY := n1_; have HB := n2_; have BZ := Aside0.mk hbox; clear n0_ n1_ n2_ hb hbox hg; have hnxz := NXZ.out; have hnyz := NYZ.out; have hnzx := Ne.symm NXZ.out; have hnzy := Ne.symm NYZ.out; have hx0 := bc0 BX.out; have hx1 := bc1 BX.out; have hx2 := bc2 BX.out; have hx3 := bc3 BX.out; have hx4 := bc4 BX.out; have hx5 := bc5 BX.out; have hx6 := bc6 BX.out; have hy0 := bc0 BY.out; have hz0 := bc0 BZ.out; have hz1 := bc1 BZ.out; have hz2 := bc2 BZ.out; have hz3 := bc3 BZ.out; have hz4 := bc4 BZ.out; have hf0 := blk_frozen BZ.out 0; have hf1 := blk_frozen BZ.out 1; have hf2 := blk_frozen BZ.out 2; have hf3 := blk_frozen BZ.out 3; have hf4 := blk_frozen BZ.out 4) | (go_at_call 68; (with_reducible refine (impl_inRange.calls 4 1 7 true _ HK.out).mono ?_); rintro e w' ⟨rfl, ⟨nd, rfl⟩⟩))
    all_goals first | (exfalso; simp_all; done) | (go_ret; exact ⟨by first | (simp [impl_goodIns.G, *]; done) | (simp_all [impl_goodIns.G]; done) | rfl, (by repeat (first | (with_reducible first | exact HB.out | apply below_alloc | apply pw_below_drewN | apply below_drew1 | refine below_set ?_ GZ.out) | exact HB.out))⟩)
set_option maxHeartbeats 16000000 in
set_option maxRecDepth 100000 in
theorem impl_goodIns.k5 (k : Nat) (f1 f2 f3 : Int) (A4 : Option Addr) (c4 : Nat) (l4 : List Int) (A5 : Option Addr) (c5 : Nat) (l5 : List S178) (A6 : Option Addr) (c6 : Nat) (l6 : List Int) (many : Int) (ta tb tt tr tw tg : Bool) (w : World) (hr4 : Kd.C (Kd.int .i64) w A4 l4.length l4) (hc4 : l4.length ≤ c4) (hr5 : Kd.C k178 w A5 l5.length l5) (hc5 : l5.length ≤ c5) (hr6 : Kd.C (Kd.int .i64) w A6 l6.length l6) (hc6 : l6.length ≤ c6) (ha : impl_inRange.f f1 0 3 = some ta) (hbb : impl_inRange.f f2 (-1000) 1000 = some tb) (ht : impl_inRange.f f3 0 many = some tt) (hrr : impl_areRunes.f (k + 1) l4 40 = some tr) (hw : impl_areAwaited.f (k + 1) l5 = some tw) (hg : slices_ContainsFunc_int_int_135.f l6 many = some tg) :
    Calls Try.prog 88 #[.agg #[.int .i64 5, .int .i64 f1, .int .i64 f2, .int .i64 f3, .slice A4 l4.length c4, .slice A5 l5.length c5, .slice A6 l6.length c6], .int .i64 many] w fun e w' => e = .returned (.bool (impl_goodIns.G (true, true, true, false, false) (f1 == 0) (f2 == 0) (f3 == 0) (decide (0 < (l4.length : Int))) (decide (0 < (wrap64 ((l5.length : Int) + (l6.length : Int))))) ((l6.length : Int) == (l5.length : Int)) ta tb tt tr tw tg)) ∧ Below w.heap.size w w' := by
  have hu := Try.underlying115
  have hv := Try.underlying153
  have HH : Aside0 (impl_hasOf.f (k + 1) 5 = some (true, true, true, false, false)) := ⟨by rfl⟩
  have HK : Aside0 (impl_inRange.f 5 1 7 = some true) := ⟨by rfl⟩
  have HA := Aside0.mk ha
  have HBB := Aside0.mk hbb
  have HT := Aside0.mk ht
  have HR := Aside0.mk hrr
  have HW := Aside0.mk hw
  have HG := Aside0.mk hg
  have HR4 := Aside0.mk hr4
  have HC4 := Aside0.mk hc4
  have HR5 := Aside0.mk hr5
  have HC5 := Aside0.mk hc5
  have HR6 := Aside0.mk hr6
  have HC6 := Aside0.mk hc6
  have hyp_ := trivial
  clear hr4 hc4 hr5 hc5 hr6 hc6 ha hbb ht hrr hw hg
  clear hyp_
  cases l4 with
  | nil =>
    go_enter Try.func88, Try.ntmps88
    go_wp2_with (first | ((with_reducible refine gate_dst (N := 2) rfl ?_); refine box_event ?hg (N := 2) ?hd (cs := #[.int .i64 5, .int .i64 f1, .int .i64 f2, .int .i64 f3, .slice A4 ([] : List Int).length c4, .slice A5 l5.length c5, .slice A6 l6.length c6]) (t := 115) ?hr ?_; (case hd => rfl); (case hg => rfl); (case hr => first | (go_simp; done) | (go_simp; rfl)); intro gx hg w1 hbox hb; have HB := Aside0.mk hb; have BX := Aside0.mk hbox; clear hb hbox hg) | ((with_reducible refine gate_dst (N := 3) rfl ?_); refine box_event ?hg (N := 3) ?hd (cs := #[.int .i64 many]) (t := 3) ?hr ?_; (case hd => rfl); (case hg => rfl); (case hr => first | (go_simp; done) | (go_simp; rfl)); intro gy hg w2 hbox hb; have n0_ := Aside0.mk (blk_below BX.out hb); have n1_ := Aside0.mk (below_step HB.out hb); clear BX HB; have BX := n0_; have HB := n1_; have BY := Aside0.mk hbox; clear n0_ n1_ hb hbox hg; have hx0 := bc0 BX.out; have hx1 := bc1 BX.out; have hx2 := bc2 BX.out; have hx3 := bc3 BX.out; have hx4 := bc4 BX.out; have hx5 := bc5 BX.out; have hx6 := bc6 BX.out) | (go_at_call 133; (with_reducible refine (impl_hasOf.calls (k + 1) 5 true true true false false _ HH.out).mono ?_); rintro e w9 ⟨rfl, hb⟩; have n0_ := Aside0.mk (blk_below BX.out hb); have n1_ := Aside0.mk (blk_below BY.out hb); have n2_ := Aside0.mk (below_step HB.out hb); clear BX BY HB; have BX := n0_; have BY := n1_; have HB := n2_; clear n0_ n1_ n2_ hb) | ((with_reducible refine gate_dst (N := 5) rfl ?_); refine box_event ?hg (N := 5) ?hd (cs := #[.bool false, .bool false, .bool false, .bool false, .bool false]) (t := 153) ?hr ?_; (case hd => rfl); (case hg => rfl); (case hr => first | (go_simp; done) | (go_simp; rfl)); intro gz hg w3 hbox hb; have NXZ := Aside0.mk (by rw [hg]; exact Nat.ne_of_lt (blk_lt BX.out) : gx ≠ gz); have NYZ := Aside0.mk (by rw [hg]; exact Nat.ne_of_lt (blk_lt BY.out) : gy ≠ gz); have GZ := Aside0.mk (by rw [hg]; exact below_size HB.out : w.heap.size ≤ gz); have n0_ := Aside0.mk (blk_below BX.out hb); have n1_ := Aside0.mk (blk_below BY.out hb); have n2_ := Aside0.mk (below_step HB.out hb); clear BX BY HB; have BX := n0_; have BY := n1_; have HB := n2_; have BZ := Aside0.mk hbox; clear n0_ n1_ n2_ hb hbox hg; have hnxz := NXZ.out; have hnyz := NYZ.out; have hnzx := Ne.symm NXZ.out; have hnzy := Ne.symm NYZ.out; have hx0 := bc0 BX.out; have hx1 := bc1 BX.out; have hx2 := bc2 BX.out; have hx3 := bc3 BX.out; have hx4 := bc4 BX.out; have hx5 := bc5 BX.out; have hx6 := bc6 BX.out; have hy0 := bc0 BY.out; have hz0 := bc0 BZ.out; have hz1 := bc1 BZ.out; have hz2 := bc2 BZ.out; have hz3 := bc3 BZ.out; have hz4 := bc4 BZ.out; have hf0 := blk_frozen BZ.out 0; have hf1 := blk_frozen BZ.out 1; have hf2 := blk_frozen BZ.out 2; have hf3 := blk_frozen BZ.out 3; have hf4 := blk_frozen BZ.out 4) | (go_at_call 68; (with_reducible refine (impl_inRange.calls 5 1 7 true _ HK.out).mono ?_); rintro e w' ⟨rfl, ⟨nd, rfl⟩⟩) | (go_at_call 68; (with_reducible refine (impl_inRange.calls _ 0 3 ta _ (by first | exact HA.out | (have h_ := HA.out; rw [‹f1 = 0›] at h_; exact h_))).mono ?_); rintro e w' ⟨rfl, ⟨nd, rfl⟩⟩) | (go_at_call 68; (with_reducible refine (impl_inRange.calls _ (-1000) 1000 tb _ (by first | exact HBB.out | (have h_ := HBB.out; rw [‹f2 = 0›] at h_; exact h_))).mono ?_); rintro e w' ⟨rfl, ⟨nd, rfl⟩⟩) | (go_at_call 68; (with_reducible refine (impl_inRange.calls _ 0 many tt _ (by first | exact HT.out | (have h_ := HT.out; rw [‹f3 = 0›] at h_; exact h_))).mono ?_); rintro e w' ⟨rfl, ⟨nd, rfl⟩⟩) | (go_at_call 72; (refine (impl_areRunes.calls (k + 1) A4 c4 ([] : List Int) 40 tr _ ?s1 HC4.out HR.out).mono ?_); (case s1 => repeat (first | exact (Kd.C_below HR4.out (by repeat (first | (with_reducible first | exact HB.out | apply below_alloc | apply pw_below_drewN | apply below_drew1 | refine below_set ?_ GZ.out) | exact HB.out))) | (with_reducible refine Kd.C_alloc ?_ _) | (with_reducible refine Kd.C_drewN ?_ _) | (with_reducible refine Kd.C_drew ?_))); rintro e w' ⟨rfl, ⟨nd, rfl⟩⟩) | (go_at_call 134; (with_reducible refine (impl_areAwaited.calls (k + 1) A5 c5 l5 tw _ ?s1 HC5.out HW.out).mono ?_); (case s1 => repeat (first | exact (Kd.C_below HR5.out (by repeat (first | (with_reducible first | exact HB.out | apply below_alloc | apply pw_below_drewN | apply below_drew1 | refine below_set ?_ GZ.out) | exact HB.out))) | (with_reducible refine Kd.C_alloc ?_ _) | (with_reducible refine Kd.C_drewN ?_ _) | (with_reducible refine Kd.C_drew ?_))); rintro e w4 ⟨rfl, hb⟩; have n0_ := Aside0.mk (blk_below (g := gx) (o := .cells #[.int .i64 5, .int .i64 f1, .int .i64 f2, .int .i64 f3, .slice A4 ([] : List Int).length c4, .slice A5 l5.length c5, .slice A6 l6.length c6] 115 (0, 0)) (by (iterate 5 ((with_reducible repeat (first | refine blk_drewN ?_ _ | refine blk_drew ?_ | refine blk_alloc ?_ _)); refine blk_far ?_ NXZ.out _)); (with_reducible repeat (first | refine blk_drewN ?_ _ | refine blk_drew ?_ | refine blk_alloc ?_ _)); exact BX.out) hb); have n1_ := Aside0.mk (blk_below (g := gy) (o := .cells #[.int .i64 many] 3 (0, 0)) (by (iterate 5 ((with_reducible repeat (first | refine blk_drewN ?_ _ | refine blk_drew ?_ | refine blk_alloc ?_ _)); refine blk_far ?_ NYZ.out _)); (with_reducible repeat (first | refine blk_drewN ?_ _ | refine blk_drew ?_ | refine blk_alloc ?_ _)); exact BY.out) hb); have n2_ := Aside0.mk (below_step (by repeat (first | (with_reducible first | exact HB.out | apply below_alloc | apply pw_below_drewN | apply below_drew1 | refine below_set ?_ GZ.out) | exact HB.out)) hb); clear BX BY HB hb; have BX := n0_; have BY := n1_; have HB := n2_; clear n0_ n1_ n2_; have hv5 := bc5 BX.out; have hv6 := bc6 BX.out; have hu0 := bc0 BY.out) | (go_at_call 113; (with_reducible refine (slices_ContainsFunc_int_int_135.calls (g1 := gy) A6 c6 l6 many tg _ ?s1 HC6.out ?s2 HG.out).mono ?_); (case s1 => repeat (first | exact (Kd.C_below HR6.out (by repeat (first | (with_reducible first | exact HB.out | apply below_alloc | apply pw_below_drewN | apply below_drew1 | refine below_set ?_ GZ.out) | exact HB.out))) | (with_reducible refine Kd.C_alloc ?_ _) | (with_reducible refine Kd.C_drewN ?_ _) | (with_reducible refine Kd.C_drew ?_))); (case s2 => ((with_reducible repeat (first | refine blk_drewN ?_ _ | refine blk_drew ?_ | refine blk_alloc ?_ _)); exact BY.out)); rintro e w' ⟨rfl, ⟨nd, rfl⟩⟩))
    all_goals first | (exfalso; simp_all; done) | (go_ret; exact ⟨by first | (simp [impl_goodIns.G, *]; done) | (simp_all [impl_goodIns.G]; done) | rfl, (by repeat (first | (with_reducible first | exact HB.out | apply below_alloc | apply pw_below_drewN | apply below_drew1 | refine below_set ?_ GZ.out) | exact HB.out))⟩)
  | cons x4 l4 =>
    go_enter Try.func88, Try.ntmps88
    go_wp2_with (first | ((with_reducible refine gate_dst (N := 2) rfl ?_); refine box_event ?hg (N := 2) ?hd (cs := #[.int .i64 5, .int .i64 f1, .int .i64 f2, .int .i64 f3, .slice A4 (x4 :: l4).length c4, .slice A5 l5.length c5, .slice A6 l6.length c6]) (t := 115) ?hr ?_; (case hd => rfl); (case hg => rfl); (case hr => first | (go_simp; done) | (go_simp; rfl)); intro gx hg w1 hbox hb; have HB := Aside0.mk hb; have BX := Aside0.mk hbox; clear hb hbox hg) | ((with_reducible refine gate_dst (N := 3) rfl ?_); refine box_event ?hg (N := 3) ?hd (cs := #[.int .i64 many]) (t := 3) ?hr ?_; (case hd => rfl); (case hg => rfl); (case hr => first | (go_simp; done) | (go_simp; rfl)); intro gy hg w2 hbox hb; have n0_ := Aside0.mk (blk_below BX.out hb); have n1_ := Aside0.mk (below_step HB.out hb); clear BX HB; have BX := n0_; have HB := n1_; have BY := Aside0.mk hbox; clear n0_ n1_ hb hbox hg; have hx0 := bc0 BX.out; have hx1 := bc1 BX.out; have hx2 := bc2 BX.out; have hx3 := bc3 BX.out; have hx4 := bc4 BX.out; have hx5 := bc5 BX.out; have hx6 := bc6 BX.out) | (go_at_call 133; (with_reducible refine (impl_hasOf.calls (k + 1) 5 true true true false false _ HH.out).mono ?_); rintro e w9 ⟨rfl, hb⟩; have n0_ := Aside0.mk (blk_below BX.out hb); have n1_ := Aside0.mk (blk_below BY.out hb); have n2_ := Aside0.mk (below_step HB.out hb); clear BX BY HB; have BX := n0_; have BY := n1_; have HB := n2_; clear n0_ n1_ n2_ hb) | ((with_reducible refine gate_dst (N := 5) rfl ?_); refine box_event ?hg (N := 5) ?hd (cs := #[.bool false, .bool false, .bool false, .bool false, .bool false]) (t := 153) ?hr ?_; (case hd => rfl); (case hg => rfl); (case hr => first | (go_simp; done) | (go_simp; rfl)); intro gz hg w3 hbox hb; have NXZ := Aside0.mk (by rw [hg]; exact Nat.ne_of_lt (blk_lt BX.out) : gx ≠ gz); have NYZ := Aside0.mk (by rw [hg]; exact Nat.ne_of_lt (blk_lt BY.out) : gy ≠ gz); have GZ := Aside0.mk (by rw [hg]; exact below_size HB.out : w.heap.size ≤ gz); have n0_ := Aside0.mk (blk_below BX.out hb); have n1_ := Aside0.mk (blk_below BY.out hb); have n2_ := Aside0.mk (below_step HB.out hb); clear BX BY HB; have BX := n0_; have BY := n1_; have HB := n2_; have BZ := Aside0.mk hbox; clear n0_ n1_ n2_ hb hbox hg; have hnxz := NXZ.out; have hnyz := NYZ.out; have hnzx := Ne.symm NXZ.out; have hnzy := Ne.symm NYZ.out; have hx0 := bc0 BX.out; have hx1 := bc1 BX.out; have hx2 := bc2 BX.out; have hx3 := bc3 BX.out; have hx4 := bc4 BX.out; have hx5 := bc5 BX.out; have hx6 := bc6 BX.out; have hy0 := bc0 BY.out; have hz0 := bc0 BZ.out; have hz1 := bc1 BZ.out; have hz2 := bc2 BZ.out; have hz3 := bc3 BZ.out; have hz4 := bc4 BZ.out; have hf0 := blk_frozen BZ.out 0; have hf1 := blk_frozen BZ.out 1; have hf2 := blk_frozen BZ.out 2; have hf3 := blk_frozen BZ.out 3; have hf4 := blk_frozen BZ.out 4) | (go_at_call 68; (with_reducible refine (impl_inRange.calls 5 1 7 true _ HK.out).mono ?_); rintro e w' ⟨rfl, ⟨nd, rfl⟩⟩))
    all_goals first | (exfalso; simp_all; done) | (go_ret; exact ⟨by first | (simp [impl_goodIns.G, *]; done) | (simp_all [impl_goodIns.G]; done) | rfl, (by repeat (first | (with_reducible first | exact HB.out | apply below_alloc | apply pw_below_drewN | apply below_drew1 | refine below_set ?_ GZ.out) | exact HB.out))⟩)
set_option maxHeartbeats 16000000 in
set_option maxRecDepth 100000 in
theorem impl_goodIns.k6 (k : Nat) (f1 f2 f3 : Int) (A4 : Option Addr) (c4 : Nat) (l4 : List Int) (A5 : Option Addr) (c5 : Nat) (l5 : List S178) (A6 : Option Addr) (c6 : Nat) (l6 : List Int) (many : Int) (ta tb tt tr tw tg : Bool) (w : World) (hr4 : Kd.C (Kd.int .i64) w A4 l4.length l4) (hc4 : l4.length ≤ c4) (hr5 : Kd.C k178 w A5 l5.length l5) (hc5 : l5.length ≤ c5) (hr6 : Kd.C (Kd.int .i64) w A6 l6.length l6) (hc6 : l6.length ≤ c6) (ha : impl_inRange.f f1 0 3 = some ta) (hbb : impl_inRange.f f2 (-1000) 1000 = some tb) (ht : impl_inRange.f f3 0 many = some tt) (hrr : impl_areRunes.f (k + 1) l4 40 = some tr) (hw : impl_areAwaited.f (k + 1) l5 = some tw) (hg : slices_ContainsFunc_int_int_135.f l6 many = some tg) :
    Calls Try.prog 88 #[.agg #[.int .i64 6, .int .i64 f1, .int .i64 f2, .int .i64 f3, .slice A4 l4.length c4, .slice A5 l5.length c5, .slice A6 l6.length c6], .int .i64 many] w fun e w' => e = .returned (.bool (impl_goodIns.G (false, false, true, false, false) (f1 == 0) (f2 == 0) (f3 == 0) (decide (0 < (l4.length : Int))) (decide (0 < (wrap64 ((l5.length : Int) + (l6.length : Int))))) ((l6.length : Int) == (l5.length : Int)) ta tb tt tr tw tg)) ∧ Below w.heap.size w w' := by
  have hu := Try.underlying115
  have hv := Try.underlying153
  have HH : Aside0 (impl_hasOf.f (k + 1) 6 = some (false, false, true, false, false)) := ⟨by rfl⟩
  have HK : Aside0 (impl_inRange.f 6 1 7 = some true) := ⟨by rfl⟩
  have HA := Aside0.mk ha
  have HBB := Aside0.mk hbb
  have HT := Aside0.mk ht
  have HR := Aside0.mk hrr
  have HW := Aside0.mk hw
  have HG := Aside0.mk hg
  have HR4 := Aside0.mk hr4
  have HC4 := Aside0.mk hc4
  have HR5 := Aside0.mk hr5
  have HC5 := Aside0.mk hc5
  have HR6 := Aside0.mk hr6
  have HC6 := Aside0.mk hc6
  have hyp_ := trivial
  clear hr4 hc4 hr5 hc5 hr6 hc6 ha hbb ht hrr hw hg
  clear hyp_
  cases l4 with
  | nil =>
    go_enter Try.func88, Try.ntmps88
    go_wp2_with (first | ((with_reducible refine gate_dst (N := 2) rfl ?_); refine box_event ?hg (N := 2) ?hd (cs := #[.int .i64 6, .int .i64 f1, .int .i64 f2, .int .i64 f3, .slice A4 ([] : List Int).length c4, .slice A5 l5.length c5, .slice A6 l6.length c6]) (t := 115) ?hr ?_; (case hd => rfl); (case hg => rfl); (case hr => first | (go_simp; done) | (go_simp; rfl)); intro gx hg w1 hbox hb; have HB := Aside0.mk hb; have BX := Aside0.mk hbox; clear hb hbox hg) | ((with_reducible refine gate_dst (N := 3) rfl ?_); refine box_event ?hg (N := 3) ?hd (cs := #[.int .i64 many]) (t := 3) ?hr ?_; (case hd => rfl); (case hg => rfl); (case hr => first | (go_simp; done) | (go_simp; rfl)); intro gy hg w2 hbox hb; have n0_ := Aside0.mk (blk_below BX.out hb); have n1_ := Aside0.mk (below_step HB.out hb); clear BX HB; have BX := n0_; have HB := n1_; have BY := Aside0.mk hbox; clear n0_ n1_ hb hbox hg; have hx0 := bc0 BX.out; have hx1 := bc1 BX.out; have hx2 := bc2 BX.out; have hx3 := bc3 BX.out; have hx4 := bc4 BX.out; have hx5 := bc5 BX.out; have hx6 := bc6 BX.out) | (go_at_call 133; (with_reducible refine (impl_hasOf.calls (k + 1) 6 false false true false false _ HH.out).mono ?_); rintro e w9 ⟨rfl, hb⟩; have n0_ := Aside0.mk (blk_below BX.out hb); have n1_ := Aside0.mk (blk_below BY.out hb); have n2_ := Aside0.mk (below_step HB.out hb); clear BX BY HB; have BX := n0_; have BY := n1_; have HB := n2_; clear n0_ n1_ n2_ hb) | ((with_reducible refine gate_dst (N := 5) rfl ?_); refine box_event ?hg (N := 5) ?hd (cs := #[.bool false, .bool false, .bool false, .bool false, .bool false]) (t := 153) ?hr ?_; (case hd => rfl); (case hg => rfl); (case hr => first | (go_simp; done) | (go_simp; rfl)); intro gz hg w3 hbox hb; have NXZ := Aside0.mk (by rw [hg]; exact Nat.ne_of_lt (blk_lt BX.out) : gx ≠ gz); have NYZ := Aside0.mk (by rw [hg]; exact Nat.ne_of_lt (blk_lt BY.out) : gy ≠ gz); have GZ := Aside0.mk (by rw [hg]; exact below_size HB.out : w.heap.size ≤ gz); have n0_ := Aside0.mk (blk_below BX.out hb); have n1_ := Aside0.mk (blk_below BY.out hb); have n2_ := Aside0.mk (below_step HB.out hb); clear BX BY HB; have BX := n0_; have BY := n1_; have HB := n2_; have BZ := Aside0.mk hbox; clear n0_ n1_ n2_ hb hbox hg; have hnxz := NXZ.out; have hnyz := NYZ.out; have hnzx := Ne.symm NXZ.out; have hnzy := Ne.symm NYZ.out; have hx0 := bc0 BX.out; have hx1 := bc1 BX.out; have hx2 := bc2 BX.out; have hx3 := bc3 BX.out; have hx4 := bc4 BX.out; have hx5 := bc5 BX.out; have hx6 := bc6 BX.out; have hy0 := bc0 BY.out; have hz0 := bc0 BZ.out; have hz1 := bc1 BZ.out; have hz2 := bc2 BZ.out; have hz3 := bc3 BZ.out; have hz4 := bc4 BZ.out; have hf0 := blk_frozen BZ.out 0; have hf1 := blk_frozen BZ.out 1; have hf2 := blk_frozen BZ.out 2; have hf3 := blk_frozen BZ.out 3; have hf4 := blk_frozen BZ.out 4) | (go_at_call 68; (with_reducible refine (impl_inRange.calls 6 1 7 true _ HK.out).mono ?_); rintro e w' ⟨rfl, ⟨nd, rfl⟩⟩) | (go_at_call 68; (with_reducible refine (impl_inRange.calls _ (-1000) 1000 tb _ (by first | exact HBB.out | (have h_ := HBB.out; rw [‹f2 = 0›] at h_; exact h_))).mono ?_); rintro e w' ⟨rfl, ⟨nd, rfl⟩⟩) | (go_at_call 68; (with_reducible refine (impl_inRange.calls _ 0 many tt _ (by first | exact HT.out | (have h_ := HT.out; rw [‹f3 = 0›] at h_; exact h_))).mono ?_); rintro e w' ⟨rfl, ⟨nd, rfl⟩⟩) | (go_at_call 72; (refine (impl_areRunes.calls (k + 1) A4 c4 ([] : List Int) 40 tr _ ?s1 HC4.out HR.out).mono ?_); (case s1 => repeat (first | exact (Kd.C_below HR4.out (by repeat (first | (with_reducible first | exact HB.out | apply below_alloc | apply pw_below_drewN | apply below_drew1 | refine below_set ?_ GZ.out) | exact HB.out))) | (with_reducible refine Kd.C_alloc ?_ _) | (with_reducible refine Kd.C_drewN ?_ _) | (with_reducible refine Kd.C_drew ?_))); rintro e w' ⟨rfl, ⟨nd, rfl⟩⟩) | (go_at_call 134; (with_reducible refine (impl_areAwaited.calls (k + 1) A5 c5 l5 tw _ ?s1 HC5.out HW.out).mono ?_); (case s1 => repeat (first | exact (Kd.C_below HR5.out (by repeat (first | (with_reducible first | exact HB.out | apply below_alloc | apply pw_below_drewN | apply below_drew1 | refine below_set ?_ GZ.out) | exact HB.out))) | (with_reducible refine Kd.C_alloc ?_ _) | (with_reducible refine Kd.C_drewN ?_ _) | (with_reducible refine Kd.C_drew ?_))); rintro e w4 ⟨rfl, hb⟩; have n0_ := Aside0.mk (blk_below (g := gx) (o := .cells #[.int .i64 6, .int .i64 f1, .int .i64 f2, .int .i64 f3, .slice A4 ([] : List Int).length c4, .slice A5 l5.length c5, .slice A6 l6.length c6] 115 (0, 0)) (by (iterate 5 ((with_reducible repeat (first | refine blk_drewN ?_ _ | refine blk_drew ?_ | refine blk_alloc ?_ _)); refine blk_far ?_ NXZ.out _)); (with_reducible repeat (first | refine blk_drewN ?_ _ | refine blk_drew ?_ | refine blk_alloc ?_ _)); exact BX.out) hb); have n1_ := Aside0.mk (blk_below (g := gy) (o := .cells #[.int .i64 many] 3 (0, 0)) (by (iterate 5 ((with_reducible repeat (first | refine blk_drewN ?_ _ | refine blk_drew ?_ | refine blk_alloc ?_ _)); refine blk_far ?_ NYZ.out _)); (with_reducible repeat (first | refine blk_drewN ?_ _ | refine blk_drew ?_ | refine blk_alloc ?_ _)); exact BY.out) hb); have n2_ := Aside0.mk (below_step (by repeat (first | (with_reducible first | exact HB.out | apply below_alloc | apply pw_below_drewN | apply below_drew1 | refine below_set ?_ GZ.out) | exact HB.out)) hb); clear BX BY HB hb; have BX := n0_; have BY := n1_; have HB := n2_; clear n0_ n1_ n2_; have hv5 := bc5 BX.out; have hv6 := bc6 BX.out; have hu0 := bc0 BY.out) | (go_at_call 113; (with_reducible refine (slices_ContainsFunc_int_int_135.calls (g1 := gy) A6 c6 l6 many tg _ ?s1 HC6.out ?s2 HG.out).mono ?_); (case s1 => repeat (first | exact (Kd.C_below HR6.out (by repeat (first | (with_reducible first | exact HB.out | apply below_alloc | apply pw_below_drewN | apply below_drew1 | refine below_set ?_ GZ.out) | exact HB.out))) | (with_reducible refine Kd.C_alloc ?_ _) | (with_reducible refine Kd.C_drewN ?_ _) | (with_reducible refine Kd.C_drew ?_))); (case s2 => ((with_reducible repeat (first | refine blk_drewN ?_ _ | refine blk_drew ?_ | refine blk_alloc ?_ _)); exact BY.out)); rintro e w' ⟨rfl, ⟨nd, rfl⟩⟩))
    all_goals first | (exfalso; simp_all; done) | (go_ret; exact ⟨by first | (simp [impl_goodIns.G, *]; done) | (simp_all [impl_goodIns.G]; done) | rfl, (by repeat (first | (with_reducible first | exact HB.out | apply below_alloc | apply pw_below_drewN | apply below_drew1 | refine below_set ?_ GZ.out) | exact HB.out))⟩)
  | cons x4 l4 =>
    go_enter Try.func88, Try.ntmps88
    go_wp2_with (first | ((with_reducible refine gate_dst (N := 2) rfl ?_); refine box_event ?hg (N := 2) ?hd (cs := #[.int .i64 6, .int .i64 f1, .int .i64 f2, .int .i64 f3, .slice A4 (x4 :: l4).length c4, .slice A5 l5.length c5, .slice A6 l6.length c6]) (t := 115) ?hr ?_; (case hd => rfl); (case hg => rfl); (case hr => first | (go_simp; done) | (go_simp; rfl)); intro gx hg w1 hbox hb; have HB := Aside0.mk hb; have BX := Aside0.mk hbox; clear hb hbox hg) | ((with_reducible refine gate_dst (N := 3) rfl ?_); refine box_event ?hg (N := 3) ?hd (cs := #[.int .i64 many]) (t := 3) ?hr ?_; (case hd => rfl); (case hg => rfl); (case hr => first | (go_simp; done) | (go_simp; rfl)); intro gy hg w2 hbox hb; have n0_ := Aside0.mk (blk_below BX.out hb); have n1_ := Aside0.mk (below_step HB.out hb); clear BX HB; have BX := n0_; have HB := n1_; have BY := Aside0.mk hbox; clear n0_ n1_ hb hbox hg; have hx0 := bc0 BX.out; have hx1 := bc1 BX.out; have hx2 := bc2 BX.out; have hx3 := bc3 BX.out; have hx4 := bc4 BX.out; have hx5 := bc5 BX.out; have hx6 := bc6 BX.out) | (go_at_call 133; (with_reducible refine (impl_hasOf.calls (k + 1) 6 false false true false false _ HH.out).mono ?_); rintro e w9 ⟨rfl, hb⟩; have n0_ := Aside0.mk (blk_below BX.out hb); have n1_ := Aside0.mk (blk_below BY.out hb); have n2_ := Aside0.mk (below_step HB.out hb); clear BX BY HB; have BX := n0_; have BY := n1_; have HB := n2_; clear n0_ n1_ n2_ hb) | ((with_reducible refine gate_dst (N := 5) rfl ?_); refine box_event ?hg (N := 5) ?hd (cs := #[.bool false, .bool false, .bool false, .bool false, .bool false]) (t := 153) ?hr ?_; (case hd => rfl); (case hg => rfl); (case hr => first | (go_simp; done) | (go_simp; rfl)); intro gz hg w3 hbox hb; have NXZ := Aside0.mk (by rw [hg]; exact Nat.ne_of_lt (blk_lt BX.out) : gx ≠ gz); have NYZ := Aside0.mk (by rw [hg]; exact Nat.ne_of_lt (blk_lt BY.out) : gy ≠ gz); have GZ := Aside0.mk (by rw [hg]; exact below_size HB.out : w.heap.size ≤ gz); have n0_ := Aside0.mk (blk_below BX.out hb); have n1_ := Aside0.mk (blk_below BY.out hb); have n2_ := Aside0.mk (below_step HB.out hb); clear BX BY HB; have BX := n0_; have BY := n1_; have HB := n2_; have BZ := Aside0.mk hbox; clear n0_ n1_ n2_ hb hbox hg; have hnxz := NXZ.out; have hnyz := NYZ.out; have hnzx := Ne.symm NXZ.out; have hnzy := Ne.symm NYZ.out; have hx0 := bc0 BX.out; have hx1 := bc1 BX.out; have hx2 := bc2 BX.out; have hx3 := bc3 BX.out; have hx4 := bc4 BX.out; have hx5 := bc5 BX.out; have hx6 := bc6 BX.out; have hy0 := bc0 BY.out; have hz0 := bc0 BZ.out; have hz1 := bc1 BZ.out; have hz2 := bc2 BZ.out; have hz3 := bc3 BZ.out; have hz4 := bc4 BZ.out; have hf0 := blk_frozen BZ.out 0; have hf1 := blk_frozen BZ.out 1; have hf2 := blk_frozen BZ.out 2; have hf3 := blk_frozen BZ.out 3; have hf4 := blk_frozen BZ.out 4) | (go_at_call 68; (with_reducible refine (impl_inRange.calls 6 1 7 true _ HK.out).mono ?_); rintro e w' ⟨rfl, ⟨nd, rfl⟩⟩))
    all_goals first | (exfalso; simp_all; done) | (go_ret; exact ⟨by first | (simp [impl_goodIns.G, *]; done) | (simp_all [impl_goodIns.G]; done) | rfl, (by repeat (first | (with_reducible first | exact HB.out | apply below_alloc | apply pw_below_drewN | apply below_drew1 | refine below_set ?_ GZ.out) | exact HB.out))⟩)
set_option maxHeartbeats 16000000 in
set_option maxRecDepth 100000 in
theorem impl_goodIns.k7 (k : Nat) (f1 f2 f3 : Int) (A4 : Option Addr) (c4 : Nat) (l4 : List Int) (A5 : Option Addr) (c5 : Nat) (l5 : List S178) (A6 : Option Addr) (c6 : Nat) (l6 : List Int) (many : Int) (ta tb tt tr tw tg : Bool) (w : World) (hr4 : Kd.C (Kd.int .i64) w A4 l4.length l4) (hc4 : l4.length ≤ c4) (hr5 : Kd.C k178 w A5 l5.length l5) (hc5 : l5.length ≤ c5) (hr6 : Kd.C (Kd.int .i64) w A6 l6.length l6) (hc6 : l6.length ≤ c6) (ha : impl_inRange.f f1 0 3 = some ta) (hbb : impl_inRange.f f2 (-1000) 1000 = some tb) (ht : impl_inRange.f f3 0 many = some tt) (hrr : impl_areRunes.f (k + 1) l4 40 = some tr) (hw : impl_areAwaited.f (k + 1) l5 = some tw) (hg : slices_ContainsFunc_int_int_135.f l6 many = some tg) :
    Calls Try.prog 88 #[.agg #[.int .i64 7, .int .i64 f1, .int .i64 f2, .int .i64 f3, .slice A4 l4.length c4, .slice A5 l5.length c5, .slice A6 l6.length c6], .int .i64 many] w fun e w' => e = .returned (.bool (impl_goodIns.G (false, false, false, false, false) (f1 == 0) (f2 == 0) (f3 == 0) (decide (0 < (l4.length : Int))) (decide (0 < (wrap64 ((l5.length : Int) + (l6.length : Int))))) ((l6.length : Int) == (l5.length : Int)) ta tb tt tr tw tg)) ∧ Below w.heap.size w w' := by
  have hu := Try.underlying115
  have hv := Try.underlying153
  have HH : Aside0 (impl_hasOf.f (k + 1) 7 = some (false, false, false, false, false)) := ⟨by rfl⟩
  have HK : Aside0 (impl_inRange.f 7 1 7 = some true) := ⟨by rfl⟩
  have HA := Aside0.mk ha
  have HBB := Aside0.mk hbb
  have HT := Aside0.mk ht
  have HR := Aside0.mk hrr
  have HW := Aside0.mk hw
  have HG := Aside0.mk hg
  have HR4 := Aside0.mk hr4
  have HC4 := Aside0.mk hc4
  have HR5 := Aside0.mk hr5
  have HC5 := Aside0.mk hc5
  have HR6 := Aside0.mk hr6
  have HC6 := Aside0.mk hc6
  have hyp_ := trivial
  clear hr4 hc4 hr5 hc5 hr6 hc6 ha hbb ht hrr hw hg
  clear hyp_
  cases l4 with
  | nil =>
    go_enter Try.func88, Try.ntmps88
    go_wp2_with (first | ((with_reducible refine gate_dst (N := 2) rfl ?_); refine box_event ?hg (N := 2) ?hd (cs := #[.int .i64 7, .int .i64 f1, .int .i64 f2, .int .i64 f3, .slice A4 ([] : List Int).length c4, .slice A5 l5.length c5, .slice A6 l6.length c6]) (t := 115) ?hr ?_; (case hd => rfl); (case hg => rfl); (case hr => first | (go_simp; done) | (go_simp; rfl)); intro gx hg w1 hbox hb; have HB := Aside0.mk hb; have BX := Aside0.mk hbox; clear hb hbox hg) | ((with_reducible refine gate_dst (N := 3) rfl ?_); refine box_event ?hg (N := 3) ?hd (cs := #[.int .i64 many]) (t := 3) ?hr ?_; (case hd => rfl); (case hg => rfl); (case hr => first | (go_simp; done) | (go_simp; rfl)); intro gy hg w2 hbox hb; have n0_ := Aside0.mk (blk_below BX.out hb); have n1_ := Aside0.mk (below_step HB.out hb); clear BX HB; have BX := n0_; have HB := n1_; have BY := Aside0.mk hbox; clear n0_ n1_ hb hbox hg; have hx0 := bc0 BX.out; have hx1 := bc1 BX.out; have hx2 := bc2 BX.out; have hx3 := bc3 BX.out; have hx4 := bc4 BX.out; have hx5 := bc5 BX.out; have hx6 := bc6 BX.out) | (go_at_call 133; (with_reducible refine (impl_hasOf.calls (k + 1) 7 false false false false false _ HH.out).mono ?_); rintro e w9 ⟨rfl, hb⟩; have n0_ := Aside0.mk (blk_below BX.out hb); have n1_ := Aside0.mk (blk_below BY.out hb); have n2_ := Aside0.mk (below_step HB.out hb); clear BX BY HB; have BX := n0_; have BY := n1_; have HB := n2_; clear n0_ n1_ n2_ hb) | ((with_reducible refine gate_dst (N := 5) rfl ?_); refine box_event ?hg (N := 5) ?hd (cs := #[.bool false, .bool false, .bool false, .bool false, .bool false]) (t := 153) ?hr ?_; (case hd => rfl); (case hg => rfl); (case hr => first | (go_simp; done) | (go_simp; rfl)); intro gz hg w3 hbox hb; have NXZ := Aside0.mk (by rw [hg]; exact Nat.ne_of_lt (blk_lt BX.out) : gx ≠ gz); have NYZ := Aside0.mk (by rw [hg]; exact Nat.ne_of_lt (blk_lt BY.out) : gy ≠ gz); have GZ := Aside0.mk (by rw [hg]; exact below_size HB.out : w.heap.size ≤ gz); have n0_ := Aside0.mk (blk_below BX.out hb); have n1_ := Aside0.mk (blk_below BY.out hb); have n2_ := Aside0.mk (below_step HB.out hb); clear BX BY HB; have BX := n0_; have BY := n1_; have HB := n2_; have BZ := Aside0.mk hbox; clear n0_ n1_ n2_ hb hbox hg; have hnxz := NXZ.out; have hnyz := NYZ.out; have hnzx := Ne.symm NXZ.out; have hnzy := Ne.symm NYZ.out; have hx0 := bc0 BX.out; have hx1 := bc1 BX.out; have hx2 := bc2 BX.out; have hx3 := bc3 BX.out; have hx4 := bc4 BX.out; have hx5 := bc5 BX.out; have hx6 := bc6 BX.out; have hy0 := bc0 BY.out; have hz0 := bc0 BZ.out; have hz1 := bc1 BZ.out; have hz2 := bc2 BZ.out; have hz3 := bc3 BZ.out; have hz4 := bc4 BZ.out; have hf0 := blk_frozen BZ.out 0; have hf1 := blk_frozen BZ.out 1; have hf2 := blk_frozen BZ.out 2; have hf3 := blk_frozen BZ.out 3; have hf4 := blk_frozen BZ.out 4) | (go_at_call 68; (with_reducible refine (impl_inRange.calls 7 1 7 true _ HK.out).mono ?_); rintro e w' ⟨rfl, ⟨nd, rfl⟩⟩) | (go_at_call 68; (with_reducible refine (impl_inRange.calls _ (-1000) 1000 tb _ (by first | exact HBB.out | (have h_ := HBB.out; rw [‹f2 = 0›] at h_; exact h_))).mono ?_); rintro e w' ⟨rfl, ⟨nd, rfl⟩⟩) | (go_at_call 68; (with_reducible refine (impl_inRange.calls _ 0 many tt _ (by first | exact HT.out | (have h_ := HT.out; rw [‹f3 = 0›] at h_; exact h_))).mono ?_); rintro e w' ⟨rfl, ⟨nd, rfl⟩⟩) | (go_at_call 72; (refine (impl_areRunes.calls (k + 1) A4 c4 ([] : List Int) 40 tr _ ?s1 HC4.out HR.out).mono ?_); (case s1 => repeat (first | exact (Kd.C_below HR4.out (by repeat (first | (with_reducible first | exact HB.out | apply below_alloc | apply pw_below_drewN | apply below_drew1 | refine below_set ?_ GZ.out) | exact HB.out))) | (with_reducible refine Kd.C_alloc ?_ _) | (with_reducible refine Kd.C_drewN ?_ _) | (with_reducible refine Kd.C_drew ?_))); rintro e w' ⟨rfl, ⟨nd, rfl⟩⟩) | (go_at_call 134; (with_reducible refine (impl_areAwaited.calls (k + 1) A5 c5 l5 tw _ ?s1 HC5.out HW.out).mono ?_); (case s1 => repeat (first | exact (Kd.C_below HR5.out (by repeat (first | (with_reducible first | exact HB.out | apply below_alloc | apply pw_below_drewN | apply below_drew1 | refine below_set ?_ GZ.out) | exact HB.out))) | (with_reducible refine Kd.C_alloc ?_ _) | (with_reducible refine Kd.C_drewN ?_ _) | (with_reducible refine Kd.C_drew ?_))); rintro e w4 ⟨rfl, hb⟩; have n0_ := Aside0.mk (blk_below (g := gx) (o := .cells #[.int .i64 7, .int .i64 f1, .int .i64 f2, .int .i64 f3, .slice A4 ([] : List Int).length c4, .slice A5 l5.length c5, .slice A6 l6.length c6] 115 (0, 0)) (by (iterate 5 ((with_reducible repeat (first | refine blk_drewN ?_ _ | refine blk_drew ?_ | refine blk_alloc ?_ _)); refine blk_far ?_ NXZ.out _)); (with_reducible repeat (first | refine blk_drewN ?_ _ | refine blk_drew ?_ | refine blk_alloc ?_ _)); exact BX.out) hb); have n1_ := Aside0.mk (blk_below (g := gy) (o := .cells #[.int .i64 many] 3 (0, 0)) (by (iterate 5 ((with_reducible repeat (first | refine blk_drewN ?_ _ | refine blk_drew ?_ | refine blk_alloc ?_ _)); refine blk_far ?_ NYZ.out _)); (with_reducible repeat (first | refine blk_drewN ?_ _ | refine blk_drew ?_ | refine blk_alloc ?_ _)); exact BY.out) hb); have n2_ := Aside0.mk (below_step (by repeat (first | (with_reducible first | exact HB.out | apply below_alloc | apply pw_below_drewN | apply below_drew1 | refine below_set ?_ GZ.out) | exact HB.out)) hb); clear BX BY HB hb; have BX := n0_; have BY := n1_; have HB := n2_; clear n0_ n1_ n2_; have hv5 := bc5 BX.out; have hv6 := bc6 BX.out; have hu0 := bc0 BY.out) | (go_at_call 113; (with_reducible refine (slices_ContainsFunc_int_int_135.calls (g1 := gy) A6 c6 l6 many tg _ ?s1 HC6.out ?s2 HG.out).mono ?_); (case s1 => repeat (first | exact (Kd.C_below HR6.out (by repeat (first | (with_reducible first | exact HB.out | apply below_alloc | apply pw_below_drewN | apply below_drew1 | refine below_set ?_ GZ.out) | exact HB.out))) | (with_reducible refine Kd.C_alloc ?_ _) | (with_reducible refine Kd.C_drewN ?_ _) | (with_reducible refine Kd.C_drew ?_))); (case s2 => ((with_reducible repeat (first | refine blk_drewN ?_ _ | refine blk_drew ?_ | refine blk_alloc ?_ _)); exact BY.out)); rintro e w' ⟨rfl, ⟨nd, rfl⟩⟩))
    all_goals first | (exfalso; simp_all; done) | (go_ret; exact ⟨by first | (simp [impl_goodIns.G, *]; done) | (simp_all [impl_goodIns.G]; done) | rfl, (by repeat (first | (with_reducible first | exact HB.out | apply below_alloc | apply pw_below_drewN | apply below_drew1 | refine below_set ?_ GZ.out) | exact HB.out))⟩)
  | cons x4 l4 =>
    go_enter Try.func88, Try.ntmps88
    go_wp2_with (first | ((with_reducible refine gate_dst (N := 2) rfl ?_); refine box_event ?hg (N := 2) ?hd (cs := #[.int .i64 7, .int .i64 f1, .int .i64 f2, .int .i64 f3, .slice A4 (x4 :: l4).length c4, .slice A5 l5.length c5, .slice A6 l6.length c6]) (t := 115) ?hr ?_; (case hd => rfl); (case hg => rfl); (case hr => first | (go_simp; done) | (go_simp; rfl)); intro gx hg w1 hbox hb; have HB := Aside0.mk hb; have BX := Aside0.mk hbox; clear hb hbox hg) | ((with_reducible refine gate_dst (N := 3) rfl ?_); refine box_event ?hg (N := 3) ?hd (cs := #[.int .i64 many]) (t := 3) ?hr ?_; (case hd => rfl); (case hg => rfl); (case hr => first | (go_simp; done) | (go_simp; rfl)); intro gy hg w2 hbox hb; have n0_ := Aside0.mk (blk_below BX.out hb); have n1_ := Aside0.mk (below_step HB.out hb); clear BX HB; have BX := n0_; have HB := n1_; have BY := Aside0.mk hbox; clear n0_ n1_ hb hbox hg; have hx0 := bc0 BX.out; have hx1 := bc1 BX.out; have hx2 := bc2 BX.out; have hx3 := bc3 BX.out; have hx4 := bc4 BX.out; have hx5 := bc5 BX.out; have hx6 := bc6 BX.out) | (go_at_call 133; (with_reducible refine (impl_hasOf.calls (k + 1) 7 false false false false false _ HH.out).mono ?_); rintro e w9 ⟨rfl, hb⟩; have n0_ := Aside0.mk (blk_below BX.out hb); have n1_ := Aside0.mk (blk_below BY.out hb); have n2_ := Aside0.mk (below_step HB.out hb); clear BX BY HB; have BX := n0_; have BY := n1_; have HB := n2_; clear n0_ n1_ n2_ hb) | ((with_reducible refine gate_dst (N := 5) rfl ?_); refine box_event ?hg (N := 5) ?hd (cs := #[.bool false, .bool false, .bool false, .bool false, .bool false]) (t := 153) ?hr ?_; (case hd => rfl); (case hg => rfl); (case hr => first | (go_simp; done) | (go_simp; rfl)); intro gz hg w3 hbox hb; have NXZ := Aside0.mk (by rw [hg]; exact Nat.ne_of_lt (blk_lt BX.out) : gx ≠ gz); have NYZ := Aside0.mk (by rw [hg]; exact Nat.ne_of_lt (blk_lt BY.out) : gy ≠ gz); have GZ := Aside0.mk (by rw [hg]; exact below_size HB.out : w.heap.size ≤ gz); have n0_ := Aside0.mk (blk_below BX.out hb); have n1_ := Aside0.mk (blk_below BY.out hb); have n2_ := Aside0.mk (below_step HB.out hb); clear BX BY HB; have BX := n0_; have BY := n1_; have HB := n2_; have BZ := Aside0.mk hbox; clear n0_ n1_ n2_ hb hbox hg; have hnxz := NXZ.out; have hnyz := NYZ.out; have hnzx := Ne.symm NXZ.out; have hnzy := Ne.symm NYZ.out; have hx0 := bc0 BX.out; have hx1 := bc1 BX.out; have hx2 := bc2 BX.out; have hx3 := bc3 BX.out; have hx4 := bc4 BX.out; have hx5 := bc5 BX.out; have hx6 := bc6 BX.out; have hy0 := bc0 BY.out; have hz0 := bc0 BZ.out; have hz1 := bc1 BZ.out; have hz2 := bc2 BZ.out; have hz3 := bc3 BZ.out; have hz4 := bc4 BZ.out; have hf0 := blk_frozen BZ.out 0; have hf1 := blk_frozen BZ.out 1; have hf2 := blk_frozen BZ.out 2; have hf3 := blk_frozen BZ.out 3; have hf4 := blk_frozen BZ.out 4) | (go_at_call 68; (with_reducible refine (impl_inRange.calls 7 1 7 true _ HK.out).mono ?_); rintro e w' ⟨rfl, ⟨nd, rfl⟩⟩))
    all_goals first | (exfalso; simp_all; done) | (go_ret; exact ⟨by first | (simp [impl_goodIns.G, *]; done) | (simp_all [impl_goodIns.G]; done) | rfl, (by repeat (first | (with_reducible first | exact HB.out | apply below_alloc | apply pw_below_drewN | apply below_drew1 | refine below_set ?_ GZ.out) | exact HB.out))⟩)
set_option maxHeartbeats 16000000 in
set_option maxRecDepth 100000 in
theorem impl_goodIns.kn (k : Nat) (f0 : Int) (hyp : impl_inRange.f f0 1 7 = some false) (hh : impl_hasOf.f (k + 1) f0 = some (false, false, false, false, false)) (c2 : f0 ≠ 2) (f1 f2 f3 : Int) (A4 : Option Addr) (c4 : Nat) (l4 : List Int) (A5 : Option Addr) (c5 : Nat) (l5 : List S178) (A6 : Option Addr) (c6 : Nat) (l6 : List Int) (many : Int) (w : World) (hr4 : Kd.C (Kd.int .i64) w A4 l4.length l4) (hc4 : l4.length ≤ c4) (hr5 : Kd.C k178 w A5 l5.length l5) (hc5 : l5.length ≤ c5) (hr6 : Kd.C (Kd.int .i64) w A6 l6.length l6) (hc6 : l6.length ≤ c6) :
    Calls Try.prog 88 #[.agg #[.int .i64 f0, .int .i64 f1, .int .i64 f2, .int .i64 f3, .slice A4 l4.length c4, .slice A5 l5.length c5, .slice A6 l6.length c6], .int .i64 many] w fun e w' => e = .returned (.bool (false)) ∧ Below w.heap.size w w' := by
  have hu := Try.underlying115
  have hv := Try.underlying153
  have HH := Aside0.mk hh
  have HK := Aside0.mk hyp
  have hc2a : (f0 == 2) = false := beq_eq_false_iff_ne.mpr c2
  have hc2b : (f0 != 2) = true := bne_iff_ne.mpr c2
  have HR4 := Aside0.mk hr4
  have HC4 := Aside0.mk hc4
  have HR5 := Aside0.mk hr5
  have HC5 := Aside0.mk hc5
  have HR6 := Aside0.mk hr6
  have HC6 := Aside0.mk hc6
  have hyp_ := trivial
  clear hr4 hc4 hr5 hc5 hr6 hc6 hh hyp c2
  clear hyp_
  go_enter Try.func88, Try.ntmps88
  go_wp2_with (first | ((with_reducible refine gate_dst (N := 2) rfl ?_); refine box_event ?hg (N := 2) ?hd (cs := #[.int .i64 f0, .int .i64 f1, .int .i64 f2, .int .i64 f3, .slice A4 l4.length c4, .slice A5 l5.length c5, .slice A6 l6.length c6]) (t := 115) ?hr ?_; (case hd => rfl); (case hg => rfl); (case hr => first | (go_simp; done) | (go_simp; rfl)); intro gx hg w1 hbox hb; have HB := Aside0.mk hb; have BX := Aside0.mk hbox; clear hb hbox hg) | ((with_reducible refine gate_dst (N := 3) rfl ?_); refine box_event ?hg (N := 3) ?hd (cs := #[.int .i64 many]) (t := 3) ?hr ?_; (case hd => rfl); (case hg => rfl); (case hr => first | (go_simp; done) | (go_simp; rfl)); intro gy hg w2 hbox hb; have n0_ := Aside0.mk (blk_below BX.out hb); have n1_ := Aside0.mk (below_step HB.out hb); clear BX HB; have BX := n0_; have HB := n1_; have BY := Aside0.mk hbox; clear n0_ n1_ hb hbox hg; have hx0 := bc0 BX.out; have hx1 := bc1 BX.out; have hx2 := bc2 BX.out; have hx3 := bc3 BX.out; have hx4 := bc4 BX.out; have hx5 := bc5 BX.out; have hx6 := bc6 BX.out) | (go_at_call 133; (with_reducible refine (impl_hasOf.calls (k + 1) f0 false false false false false _ HH.out).mono ?_); rintro e w9 ⟨rfl, hb⟩; have n0_ := Aside0.mk (blk_below BX.out hb); have n1_ := Aside0.mk (blk_below BY.out hb); have n2_ := Aside0.mk (below_step HB.out hb); clear BX BY HB; have BX := n0_; have BY := n1_; have HB := n2_; clear n0_ n1_ n2_ hb) | ((with_reducible refine gate_dst (N := 5) rfl ?_); refine box_event ?hg (N := 5) ?hd (cs := #[.bool false, .bool false, .bool false, .bool false, .bool false]) (t := 153) ?hr ?_; (case hd => rfl); (case hg => rfl); (case hr => first | (go_simp; done) | (go_simp; rfl)); intro gz hg w3 hbox hb; have NXZ := Aside0.mk (by rw [hg]; exact Nat.ne_of_lt (blk_lt BX.out) : gx ≠ gz); have NYZ := Aside0.mk (by rw [hg]; exact Nat.ne_of_lt (blk_lt BY.out) : gy ≠ gz); have GZ := Aside0.mk (by rw [hg]; exact below_size HB.out : w.heap.size ≤ gz); have n0_ := Aside0.mk (blk_below BX.out hb); have n1_ := Aside0.mk (blk_below BY.out hb); have n2_ := Aside0.mk (below_step HB.out hb); clear BX BY HB; have BX := n0_; have BY := n1_; have HB := n2_; have BZ := Aside0.mk hbox; clear n0_ n1_ n2_ hb hbox hg; have hnxz := NXZ.out; have hnyz := NYZ.out; have hnzx := Ne.symm NXZ.out; have hnzy := Ne.symm NYZ.out; have hx0 := bc0 BX.out; have hx1 := bc1 BX.out; have hx2 := bc2 BX.out; have hx3 := bc3 BX.out; have hx4 := bc4 BX.out; have hx5 := bc5 BX.out; have hx6 := bc6 BX.out; have hy0 := bc0 BY.out; have hz0 := bc0 BZ.out; have hz1 := bc1 BZ.out; have hz2 := bc2 BZ.out; have hz3 := bc3 BZ.out; have hz4 := bc4 BZ.out; have hf0 := blk_frozen BZ.out 0; have hf1 := blk_frozen BZ.out 1; have hf2 := blk_frozen BZ.out 2; have hf3 := blk_frozen BZ.out 3; have hf4 := blk_frozen BZ.out 4) | (go_at_call 68; (with_reducible refine (impl_inRange.calls f0 1 7 false _ HK.out).mono ?_); rintro e w' ⟨rfl, ⟨nd, rfl⟩⟩))
  go_ret
  exact ⟨by first | rfl | (simp [*]; done), (by repeat (first | (with_reducible first | exact HB.out | apply below_alloc | apply pw_below_drewN | apply below_drew1 | refine below_set ?_ GZ.out) | exact HB.out))⟩
theorem impl_goodIns.calls (k : Nat) (f0 f1 f2 f3 : Int) (A4 : Option Addr) (c4 : Nat) (l4 : List Int) (A5 : Option Addr) (c5 : Nat) (l5 : List S178) (A6 : Option Addr) (c6 : Nat) (l6 : List Int) (many : Int) (r : Bool) (w : World) (hr4 : Kd.C (Kd.int .i64) w A4 l4.length l4) (hc4 : l4.length ≤ c4) (hr5 : Kd.C k178 w A5 l5.length l5) (hc5 : l5.length ≤ c5) (hr6 : Kd.C (Kd.int .i64) w A6 l6.length l6) (hc6 : l6.length ≤ c6) (h : impl_goodIns.f k f0 f1 f2 f3 l4 l5 l6 many = some r) :
    Calls Try.prog 88 #[.agg #[.int .i64 f0, .int .i64 f1, .int .i64 f2, .int .i64 f3, .slice A4 l4.length c4, .slice A5 l5.length c5, .slice A6 l6.length c6], .int .i64 many] w fun e w' => e = .returned (.bool r) ∧ Below w.heap.size w w' := by
  cases k with
  | zero => cases h
  | succ k =>
    unfold impl_goodIns.f at h
    obtain ⟨tk, hk, h⟩ := Option.bind_eq_some_iff.mp h
    obtain ⟨ta, ha, h⟩ := Option.bind_eq_some_iff.mp h
    obtain ⟨tb, hbb, h⟩ := Option.bind_eq_some_iff.mp h
    obtain ⟨tt, ht, h⟩ := Option.bind_eq_some_iff.mp h
    obtain ⟨tr, hrr, h⟩ := Option.bind_eq_some_iff.mp h
    obtain ⟨tw, hw, h⟩ := Option.bind_eq_some_iff.mp h
    obtain ⟨tg, hg, h⟩ := Option.bind_eq_some_iff.mp h
    replace h := (Option.some.inj h).symm
    by_cases e1 : f0 = 1
    · subst e1
      obtain rfl : true = tk := Option.some.inj ((show impl_inRange.f 1 1 7 = some true by rfl).symm.trans hk)
      have hr : r = impl_goodIns.G (false, false, false, true, false) (f1 == 0) (f2 == 0) (f3 == 0) (decide (0 < (l4.length : Int))) (decide (0 < (wrap64 ((l5.length : Int) + (l6.length : Int))))) ((l6.length : Int) == (l5.length : Int)) ta tb tt tr tw tg := by rw [h, Bool.true_and, show impl_goodIns.h 1 = (false, false, false, true, false) from rfl]
      clear h
      subst hr
      exact impl_goodIns.k1 k f1 f2 f3 A4 c4 l4 A5 c5 l5 A6 c6 l6 many ta tb tt tr tw tg w hr4 hc4 hr5 hc5 hr6 hc6 ha hbb ht hrr hw hg
    by_cases e2 : f0 = 2
    · subst e2
      obtain rfl : true = tk := Option.some.inj ((show impl_inRange.f 2 1 7 = some true by rfl).symm.trans hk)
      have hr : r = impl_goodIns.G (true, false, true, false, true) (f1 == 0) (f2 == 0) (f3 == 0) (decide (0 < (l4.length : Int))) (decide (0 < (wrap64 ((l5.length : Int) + (l6.length : Int))))) ((l6.length : Int) == (l5.length : Int)) ta tb tt tr tw tg := by rw [h, Bool.true_and, show impl_goodIns.h 2 = (true, false, true, false, true) from rfl]
      clear h
      subst hr
      exact impl_goodIns.k2 k f1 f2 f3 A4 c4 l4 A5 c5 l5 A6 c6 l6 many ta tb tt tr tw tg w hr4 hc4 hr5 hc5 hr6 hc6 ha hbb ht hrr hw hg
    by_cases e3 : f0 = 3
    · subst e3
      obtain rfl : true = tk := Option.some.inj ((show impl_inRange.f 3 1 7 = some true by rfl).symm.trans hk)
      have hr : r = impl_goodIns.G (true, true, false, false, false) (f1 == 0) (f2 == 0) (f3 == 0) (decide (0 < (l4.length : Int))) (decide (0 < (wrap64 ((l5.length : Int) + (l6.length : Int))))) ((l6.length : Int) == (l5.length : Int)) ta tb tt tr tw tg := by rw [h, Bool.true_and, show impl_goodIns.h 3 = (true, true, false, false, false) from rfl]
      clear h
      subst hr
      exact impl_goodIns.k3 k f1 f2 f3 A4 c4 l4 A5 c5 l5 A6 c6 l6 many ta tb tt tr tw tg w hr4 hc4 hr5 hc5 hr6 hc6 ha hbb ht hrr hw hg
    by_cases e4 : f0 = 4
    · subst e4
      obtain rfl : true = tk := Option.some.inj ((show impl_inRange.f 4 1 7 = some true by rfl).symm.trans hk)
      have hr : r = impl_goodIns.G (true, true, false, false, false) (f1 == 0) (f2 == 0) (f3 == 0) (decide (0 < (l4.length : Int))) (decide (0 < (wrap64 ((l5.length : Int) + (l6.length : Int))))) ((l6.length : Int) == (l5.length : Int)) ta tb tt tr tw tg := by rw [h, Bool.true_and, show impl_goodIns.h 4 = (true, true, false, false, false) from rfl]
      clear h
      subst hr
      exact impl_goodIns.k4 k f1 f2 f3 A4 c4 l4 A5 c5 l5 A6 c6 l6 many ta tb tt tr tw tg w hr4 hc4 hr5 hc5 hr6 hc6 ha hbb ht hrr hw hg
    by_cases e5 : f0 = 5
    · subst e5
      obtain rfl : true = tk := Option.some.inj ((show impl_inRange.f 5 1 7 = some true by rfl).symm.trans hk)
      have hr : r = impl_goodIns.G (true, true, true, false, false) (f1 == 0) (f2 == 0) (f3 == 0) (decide (0 < (l4.length : Int))) (decide (0 < (wrap64 ((l5.length : Int) + (l6.length : Int))))) ((l6.length : Int) == (l5.length : Int)) ta tb tt tr tw tg := by rw [h, Bool.true_and, show impl_goodIns.h 5 = (true, true, true, false, false) from rfl]
      clear h
      subst hr
      exact impl_goodIns.k5 k f1 f2 f3 A4 c4 l4 A5 c5 l5 A6 c6 l6 many ta tb tt tr tw tg w hr4 hc4 hr5 hc5 hr6 hc6 ha hbb ht hrr hw hg
    by_cases e6 : f0 = 6
    · subst e6
      obtain rfl : true = tk := Option.some.inj ((show impl_inRange.f 6 1 7 = some true by rfl).symm.trans hk)
      have hr : r = impl_goodIns.G (false, false, true, false, false) (f1 == 0) (f2 == 0) (f3 == 0) (decide (0 < (l4.length : Int))) (decide (0 < (wrap64 ((l5.length : Int) + (l6.length : Int))))) ((l6.length : Int) == (l5.length : Int)) ta tb tt tr tw tg := by rw [h, Bool.true_and, show impl_goodIns.h 6 = (false, false, true, false, false) from rfl]
      clear h
      subst hr
      exact impl_goodIns.k6 k f1 f2 f3 A4 c4 l4 A5 c5 l5 A6 c6 l6 many ta tb tt tr tw tg w hr4 hc4 hr5 hc5 hr6 hc6 ha hbb ht hrr hw hg
    by_cases e7 : f0 = 7
    · subst e7
      obtain rfl : true = tk := Option.some.inj ((show impl_inRange.f 7 1 7 = some true by rfl).symm.trans hk)
      have hr : r = impl_goodIns.G (false, false, false, false, false) (f1 == 0) (f2 == 0) (f3 == 0) (decide (0 < (l4.length : Int))) (decide (0 < (wrap64 ((l5.length : Int) + (l6.length : Int))))) ((l6.length : Int) == (l5.length : Int)) ta tb tt tr tw tg := by rw [h, Bool.true_and, show impl_goodIns.h 7 = (false, false, false, false, false) from rfl]
      clear h
      subst hr
      exact impl_goodIns.k7 k f1 f2 f3 A4 c4 l4 A5 c5 l5 A6 c6 l6 many ta tb tt tr tw tg w hr4 hc4 hr5 hc5 hr6 hc6 ha hbb ht hrr hw hg
    have hf : impl_inRange.f f0 1 7 = some false := by
      unfold impl_inRange.f
      simp only [Option.some.injEq] at *
      clear h
      by_cases c : 1 ≤ f0
      · by_cases c' : f0 ≤ 7
        · omega
        · simp [c, c']
      · simp [c]
    obtain rfl : false = tk := Option.some.inj (hf.symm.trans hk)
    have hr : r = false := by rw [h, Bool.false_and]
    clear h
    subst hr
    have hh : impl_hasOf.f (k + 1) f0 = some (false, false, false, false, false) := by
      simp [impl_hasOf.f, impl_hasOf.j0, e1, e2, e3, e4, e5, e6]
    exact impl_goodIns.kn k f0 hf hh e2 f1 f2 f3 A4 c4 l4 A5 c5 l5 A6 c6 l6 many w hr4 hc4 hr5 hc5 hr6 hc6


end Go.Proofs.Ytkpeihdlmjdejaa.P
