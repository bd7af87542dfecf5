import Derived.Test.YtkpeihdlmjdejaaCP0
import Derived.Test.YtkpeihdlmjdejaaC0
import Derived.Test.YtkpeihdlmjdejaaC1
import Derived.Test.YtkpeihdlmjdejaaC3
namespace Go.Proofs.Ytkpeihdlmjdejaa.P
open Go.RowKit Go.Proofs.YtkpeihdlmjdejaaW.PrintWords Go.Proofs.YtkpeihdlmjdejaaW.PrintLast Go.Proofs.YtkpeihdlmjdejaaW.PrintMore
attribute [local go_sem] max2_int min2_int max_two min_two max_three min_three max_four min_four   -- for this text's walks alone
set_option linter.unusedVariables false
set_option linter.unusedSimpArgs false


def spec_GoodProg.l0 : Nat → List (S115) → List (S115) → Int → Int → Option (Bool)
 | 0, _, _, _, _ => none
 | k + 1, x0, x5, x6, x7 => if x7 < x6 then (if 0 ≤ x7 then (if x7 < (x5.length : Int) then ((spec_l11Ins.f k x0 ((rd_T115 x5 x7).f0) ((rd_T115 x5 x7).f1) ((rd_T115 x5 x7).f2) ((rd_T115 x5 x7).f3) ((rd_T115 x5 x7).f4) ((rd_T115 x5 x7).f5) ((rd_T115 x5 x7).f6)).bind fun t840 => (if t840 = true then (spec_GoodProg.l0 k x0 x5 x6 (wrap64 (x7 + 1))) else (some false))) else (none)) else (none)) else (some (decide ((x0.length : Int) ≤ 30)))
def spec_GoodProg.f (k : Nat) (l0 : List (S115)) : Option (Bool) := spec_GoodProg.l0 k l0 l0 (l0.length : Int) 0
theorem spec_GoodProg.mono_l : ∀ k, (∀ y0 y1 y2 y3, LeO (spec_GoodProg.l0 k y0 y1 y2 y3) (spec_GoodProg.l0 (k + 1) y0 y1 y2 y3))
 | 0 => fun _ _ _ _ r h => by simp [spec_GoodProg.l0] at h
 | k + 1 => by
  have ih0 := spec_GoodProg.mono_l k
  ·intro y0 y1 y2 y3
   unfold spec_GoodProg.l0
   repeat' first
   | (with_reducible exact ih0 _ _ _ _)
   | (with_reducible exact spec_l11Ins.mono _ _ _ _ _ _ _ _ _)
   | (with_reducible exact LeO.refl _)
   | (with_reducible exact LeO.none _)
   | (with_reducible refine LeO.ite ?_ ?_)
   | (with_reducible refine LeO.bind ?_ (fun _ => ?_))
   | exact ih0 _ _ _ _
   | exact spec_l11Ins.mono _ _ _ _ _ _ _ _ _
   | exact LeO.none _
   | refine LeO.ite ?_ ?_
   | refine LeO.bind ?_ (fun _ => ?_)
theorem spec_GoodProg.mono : ∀ a0 k, LeO (spec_GoodProg.f k a0) (spec_GoodProg.f (k + 1) a0) := by
 intro a0 k
 have ih0 := spec_GoodProg.mono_l k
 unfold spec_GoodProg.f
 repeat' first
   | (with_reducible exact ih0 _ _ _ _)
   | (with_reducible exact spec_l11Ins.mono _ _ _ _ _ _ _ _ _)
   | (with_reducible exact LeO.refl _)
   | (with_reducible exact LeO.none _)
   | (with_reducible refine LeO.ite ?_ ?_)
   | (with_reducible refine LeO.bind ?_ (fun _ => ?_))
   | exact ih0 _ _ _ _
   | exact spec_l11Ins.mono _ _ _ _ _ _ _ _ _
   | exact LeO.none _
   | refine LeO.ite ?_ ?_
   | refine LeO.bind ?_ (fun _ => ?_)
set_option maxHeartbeats 8000000 in
set_option maxRecDepth 100000 in
theorem spec_GoodProg.calls (k : Nat) (A0 : Option Addr) (c0 : Nat) (l0 : List (S115)) (r : Bool) (w : World) (hr0 : Kd.C k115 w A0 l0.length l0) (hc0 : l0.length ≤ c0) (h : spec_GoodProg.f k l0 = some r) :
  Calls Try.prog 45 #[.slice A0 l0.length c0] w fun e w' => e = .returned (.bool r) ∧ Below w.heap.size w w' := by
 have hu115 := Try.underlying115
 have HR0 := Aside0.mk hr0
 have HC0 := Aside0.mk hc0
 clear hr0 hc0
 have HB := Aside0.mk (Below.refl w.heap.size w)
 have H : (spec_GoodProg.l0 k l0 l0 (l0.length : Int) 0) = some r := h
 clear h
 have H' := Aside0.mk H
 clear H
 go_enter Try.func45, Try.ntmps45
 go_wp2
 go_loopg [7] k (fun kq v7 w' => ∃ (x7_1 : Int), v7 = .int .i64 x7_1 ∧ Aside0 (spec_GoodProg.l0 kq l0 l0 (l0.length : Int) x7_1 = some r) ∧ Aside0 (kq ≤ k) ∧ Aside0 (Below w.heap.size w w'))
 case atStart => exact ⟨(0), (by first | rfl | (simp; done) | (simp [*]; done)), H', ⟨Nat.le_refl _⟩, ⟨by repeat (first | (with_reducible first | exact HB.out | apply below_alloc | apply pw_below_drewN | apply below_drew1) | exact HB.out)⟩⟩
 case round =>
  clear H'
  obtain ⟨x7_1, rfl, HA, HK1, HB⟩ := hrel
  cases gk with
  | zero => exact absurd HA.out (by simp [spec_GoodProg.l0])
  | succ k1 =>
   have H := HA.out
   clear HA
   simp only [spec_GoodProg.l0] at H
   by_cases c2 : x7_1 < (l0.length : Int)
   ·rw [if_pos c2] at H
    have c2b0 : decide (x7_1 < (l0.length : Int)) = true := decide_eq_true c2
    clear c2
    by_cases c3 : 0 ≤ x7_1
    ·rw [if_pos c3] at H
     have c3b0 : decide (0 ≤ x7_1) = true := decide_eq_true c3
     clear c3
     by_cases c4 : x7_1 < (l0.length : Int)
     ·rw [if_pos c4] at H
      have c4b0 : decide (x7_1 < (l0.length : Int)) = true := decide_eq_true c4
      clear c4
      replace H := Option.bind_eq_some_iff.mp H
      obtain ⟨t840, A50, H⟩ := H
      replace H : (if t840 = true then (spec_GoodProg.l0 k1 l0 l0 (l0.length : Int) (wrap64 (x7_1 + 1))) else (some false)) = some r := H
      have A5 := Aside0.mk A50
      clear A50
      by_cases c6 : t840 = true
      ·subst c6
       have H1 : (spec_GoodProg.l0 k1 l0 l0 (l0.length : Int) (wrap64 (x7_1 + 1))) = some r := by rw [if_pos rfl] at H; exact H
       clear H
       have H := H1
       clear H1
       have H' := Aside0.mk H
       clear H
       have p838 : 0 ≤ (x7_1 : Int) := of_decide_eq_true (by first | (with_reducible assumption) | assumption)
       have q838 : x7_1 < (l0.length : Int) := of_decide_eq_true (by first | (with_reducible assumption) | assumption)
       obtain ⟨ad838, A838_4, c838_4, A838_5, c838_5, A838_6, c838_6, e838, hx838_0, hx838_1, hx838_2, hx838_3, hx838_4, hx838_5, hx838_6, hl838_4, hi838_4, hl838_5, hi838_5, hl838_6, hi838_6⟩ := at_T115 HR0.out x7_1 p838 q838
       cases e838
       replace hx838_0 := (HB.out.cell (World.block_lt_of_cell? w _ hx838_0)).trans hx838_0
       replace hx838_1 := (HB.out.cell (World.block_lt_of_cell? w _ hx838_1)).trans hx838_1
       replace hx838_2 := (HB.out.cell (World.block_lt_of_cell? w _ hx838_2)).trans hx838_2
       replace hx838_3 := (HB.out.cell (World.block_lt_of_cell? w _ hx838_3)).trans hx838_3
       replace hx838_4 := (HB.out.cell (World.block_lt_of_cell? w _ hx838_4)).trans hx838_4
       replace hx838_5 := (HB.out.cell (World.block_lt_of_cell? w _ hx838_5)).trans hx838_5
       replace hx838_6 := (HB.out.cell (World.block_lt_of_cell? w _ hx838_6)).trans hx838_6
       have HR838_4 := Aside0.mk hi838_4
       have HC838_4 := Aside0.mk hl838_4
       clear hi838_4 hl838_4
       have HR838_5 := Aside0.mk hi838_5
       have HC838_5 := Aside0.mk hl838_5
       clear hi838_5 hl838_5
       have HR838_6 := Aside0.mk hi838_6
       have HC838_6 := Aside0.mk hl838_6
       clear hi838_6 hl838_6
       replace p838 := eq_true p838
       replace q838 := eq_true q838
       go_wp2_with (first | ((with_reducible refine gate_dst (N := 4) rfl ?_); refine box_event ?hg (N := 4) ?hd (cs := #[.int .i64 0, .int .i64 0, .int .i64 0, .int .i64 0, .slice none 0 0, .slice none 0 0, .slice none 0 0]) (t := 115) ?hr ?_; (case hd => rfl); (case hg => rfl); (case hr => first | (go_simp; done) | (go_simp; rfl)); intro gb839 hg w7 hbox hb; have n0_ := Aside0.mk (below_step (by repeat (first | (with_reducible first | exact HB.out | apply below_alloc | apply pw_below_drewN | apply below_drew1) | exact HB.out)) hb); have n1_ := Aside0.mk (hbox); have n2_ := Aside0.mk ((by rw [hg]; exact (below_size (by repeat (first | (with_reducible first | exact HB.out | apply below_alloc | apply pw_below_drewN | apply below_drew1) | exact HB.out))) : w.heap.size ≤ gb839)); have n3_ := Aside0.mk ((by rw [hg]; exact (below_size (by repeat (first | (with_reducible first | exact HB.out | apply below_alloc | apply pw_below_drewN | apply below_drew1) | exact HB.out))) : w.heap.size ≤ gb839)); clear HB; have HB := n0_; have BK839 := n1_; have GW839 := n2_; have GE839 := n3_; clear n0_ n1_ n2_ n3_; clear hb hbox hg; have hcz8_0 : w7.cell? ⟨gb839, 0, none⟩ = some (.int .i64 0) := (blk_cell BK839.out 0).trans rfl; have hcz8_1 : w7.cell? ⟨gb839, 1, none⟩ = some (.int .i64 0) := (blk_cell BK839.out 1).trans rfl; have hcz8_2 : w7.cell? ⟨gb839, 2, none⟩ = some (.int .i64 0) := (blk_cell BK839.out 2).trans rfl; have hcz8_3 : w7.cell? ⟨gb839, 3, none⟩ = some (.int .i64 0) := (blk_cell BK839.out 3).trans rfl; have hcz8_4 : w7.cell? ⟨gb839, 4, none⟩ = some (.slice none 0 0) := (blk_cell BK839.out 4).trans rfl; have hcz8_5 : w7.cell? ⟨gb839, 5, none⟩ = some (.slice none 0 0) := (blk_cell BK839.out 5).trans rfl; have hcz8_6 : w7.cell? ⟨gb839, 6, none⟩ = some (.slice none 0 0) := (blk_cell BK839.out 6).trans rfl; have hfz8_0 := blk_frozen BK839.out 0; have hfz8_1 := blk_frozen BK839.out 1; have hfz8_2 := blk_frozen BK839.out 2; have hfz8_3 := blk_frozen BK839.out 3; have hfz8_4 := blk_frozen BK839.out 4; have hfz8_5 := blk_frozen BK839.out 5; have hfz8_6 := blk_frozen BK839.out 6) | ((with_reducible refine gate_callee (f := 84) rfl ?_); refine goesL_ (some 13) rfl rfl Try.func84 (by kernel_rfl) rfl #[.slice (some ad838) l0.length c0, .agg #[.int .i64 ((rd_T115 l0 x7_1).f0), .int .i64 ((rd_T115 l0 x7_1).f1), .int .i64 ((rd_T115 l0 x7_1).f2), .int .i64 ((rd_T115 l0 x7_1).f3), .slice A838_4 ((rd_T115 l0 x7_1).f4).length c838_4, .slice A838_5 ((rd_T115 l0 x7_1).f5).length c838_5, .slice A838_6 ((rd_T115 l0 x7_1).f6).length c838_6]] rfl (by (try simp only [List.map_toArray, List.map_cons, List.map_nil]); first | done | rfl | (simp only [List.length_drop, List.length_take]; rfl)) ?_; (with_reducible refine (spec_l11Ins.calls k1 _ _ l0 ((rd_T115 l0 x7_1).f0) ((rd_T115 l0 x7_1).f1) ((rd_T115 l0 x7_1).f2) ((rd_T115 l0 x7_1).f3) _ _ ((rd_T115 l0 x7_1).f4) _ _ ((rd_T115 l0 x7_1).f5) _ _ ((rd_T115 l0 x7_1).f6) true _ ?side1 ?side2 ?side3 ?side4 ?side5 ?side6 ?side7 ?side8 A5.out).mono ?_); (case side1 => exact Kd.C_below HR0.out (by repeat (first | (with_reducible first | exact HB.out | apply below_alloc | apply pw_below_drewN | apply below_drew1 | refine below_set ?_ GE839.out) | exact HB.out))); (case side2 => exact HC0.out); (case side3 => exact Kd.C_below HR838_4.out (by repeat (first | (with_reducible first | exact HB.out | apply below_alloc | apply pw_below_drewN | apply below_drew1 | refine below_set ?_ GE839.out) | exact HB.out))); (case side4 => exact HC838_4.out); (case side5 => exact Kd.C_below HR838_5.out (by repeat (first | (with_reducible first | exact HB.out | apply below_alloc | apply pw_below_drewN | apply below_drew1 | refine below_set ?_ GE839.out) | exact HB.out))); (case side6 => exact HC838_5.out); (case side7 => exact Kd.C_below HR838_6.out (by repeat (first | (with_reducible first | exact HB.out | apply below_alloc | apply pw_below_drewN | apply below_drew1 | refine below_set ?_ GE839.out) | exact HB.out))); (case side8 => exact HC838_6.out); rintro e w9 ⟨rfl, hb⟩; refine ⟨_, rfl, ?_⟩; have n0_ := Aside0.mk (blk_below (g := gb839) (o := .cells #[.int .i64 ((rd_T115 l0 x7_1).f0), .int .i64 ((rd_T115 l0 x7_1).f1), .int .i64 ((rd_T115 l0 x7_1).f2), .int .i64 ((rd_T115 l0 x7_1).f3), .slice A838_4 ((rd_T115 l0 x7_1).f4).length c838_4, .slice A838_5 ((rd_T115 l0 x7_1).f5).length c838_5, .slice A838_6 ((rd_T115 l0 x7_1).f6).length c838_6] 115 (0, 0)) (by (with_reducible repeat (first | refine blk_drewN ?_ _ | refine blk_drew ?_ | refine blk_alloc ?_ _)); refine blk_put (cs := #[.int .i64 ((rd_T115 l0 x7_1).f0), .int .i64 ((rd_T115 l0 x7_1).f1), .int .i64 ((rd_T115 l0 x7_1).f2), .int .i64 ((rd_T115 l0 x7_1).f3), .slice A838_4 ((rd_T115 l0 x7_1).f4).length c838_4, .slice A838_5 ((rd_T115 l0 x7_1).f5).length c838_5, .slice none 0 0]) ?_ 6 _ rfl; (with_reducible repeat (first | refine blk_drewN ?_ _ | refine blk_drew ?_ | refine blk_alloc ?_ _)); refine blk_put (cs := #[.int .i64 ((rd_T115 l0 x7_1).f0), .int .i64 ((rd_T115 l0 x7_1).f1), .int .i64 ((rd_T115 l0 x7_1).f2), .int .i64 ((rd_T115 l0 x7_1).f3), .slice A838_4 ((rd_T115 l0 x7_1).f4).length c838_4, .slice none 0 0, .slice none 0 0]) ?_ 5 _ rfl; (with_reducible repeat (first | refine blk_drewN ?_ _ | refine blk_drew ?_ | refine blk_alloc ?_ _)); refine blk_put (cs := #[.int .i64 ((rd_T115 l0 x7_1).f0), .int .i64 ((rd_T115 l0 x7_1).f1), .int .i64 ((rd_T115 l0 x7_1).f2), .int .i64 ((rd_T115 l0 x7_1).f3), .slice none 0 0, .slice none 0 0, .slice none 0 0]) ?_ 4 _ rfl; (with_reducible repeat (first | refine blk_drewN ?_ _ | refine blk_drew ?_ | refine blk_alloc ?_ _)); refine blk_put (cs := #[.int .i64 ((rd_T115 l0 x7_1).f0), .int .i64 ((rd_T115 l0 x7_1).f1), .int .i64 ((rd_T115 l0 x7_1).f2), .int .i64 0, .slice none 0 0, .slice none 0 0, .slice none 0 0]) ?_ 3 _ rfl; (with_reducible repeat (first | refine blk_drewN ?_ _ | refine blk_drew ?_ | refine blk_alloc ?_ _)); refine blk_put (cs := #[.int .i64 ((rd_T115 l0 x7_1).f0), .int .i64 ((rd_T115 l0 x7_1).f1), .int .i64 0, .int .i64 0, .slice none 0 0, .slice none 0 0, .slice none 0 0]) ?_ 2 _ rfl; (with_reducible repeat (first | refine blk_drewN ?_ _ | refine blk_drew ?_ | refine blk_alloc ?_ _)); refine blk_put (cs := #[.int .i64 ((rd_T115 l0 x7_1).f0), .int .i64 0, .int .i64 0, .int .i64 0, .slice none 0 0, .slice none 0 0, .slice none 0 0]) ?_ 1 _ rfl; (with_reducible repeat (first | refine blk_drewN ?_ _ | refine blk_drew ?_ | refine blk_alloc ?_ _)); refine blk_put (cs := #[.int .i64 0, .int .i64 0, .int .i64 0, .int .i64 0, .slice none 0 0, .slice none 0 0, .slice none 0 0]) ?_ 0 _ rfl; (with_reducible repeat (first | refine blk_drewN ?_ _ | refine blk_drew ?_ | refine blk_alloc ?_ _)); exact BK839.out) hb); have n1_ := Aside0.mk (below_step (by repeat (first | (with_reducible first | exact HB.out | apply below_alloc | apply pw_below_drewN | apply below_drew1 | refine below_set ?_ GE839.out) | exact HB.out)) hb); clear BK839; clear HB; have BK839 := n0_; have HB := n1_; clear n0_ n1_; (try clear hb); (try clear hb2); (try clear hk); (try clear hi)))
       go_roundg k1
       case measure => have := HK1.out; omega
       case rel => exact ⟨(wrap64 (x7_1 + 1)), (by first | rfl | (simp; done) | (simp [*]; done)), H', ⟨by have := HK1.out; omega⟩, ⟨by repeat (first | (with_reducible first | exact HB.out | apply below_alloc | apply pw_below_drewN | apply below_drew1 | refine below_set ?_ GE839.out) | exact HB.out)⟩⟩
      ·replace c6 := Bool.eq_false_iff.mpr c6
       subst c6
       have H1 : (some false) = some r := by rw [if_neg (show ¬ (false = true) by decide)] at H; exact H
       clear H
       have H := H1
       clear H1
       obtain rfl := Option.some.inj H
       have p838 : 0 ≤ (x7_1 : Int) := of_decide_eq_true (by first | (with_reducible assumption) | assumption)
       have q838 : x7_1 < (l0.length : Int) := of_decide_eq_true (by first | (with_reducible assumption) | assumption)
       obtain ⟨ad838, A838_4, c838_4, A838_5, c838_5, A838_6, c838_6, e838, hx838_0, hx838_1, hx838_2, hx838_3, hx838_4, hx838_5, hx838_6, hl838_4, hi838_4, hl838_5, hi838_5, hl838_6, hi838_6⟩ := at_T115 HR0.out x7_1 p838 q838
       cases e838
       replace hx838_0 := (HB.out.cell (World.block_lt_of_cell? w _ hx838_0)).trans hx838_0
       replace hx838_1 := (HB.out.cell (World.block_lt_of_cell? w _ hx838_1)).trans hx838_1
       replace hx838_2 := (HB.out.cell (World.block_lt_of_cell? w _ hx838_2)).trans hx838_2
       replace hx838_3 := (HB.out.cell (World.block_lt_of_cell? w _ hx838_3)).trans hx838_3
       replace hx838_4 := (HB.out.cell (World.block_lt_of_cell? w _ hx838_4)).trans hx838_4
       replace hx838_5 := (HB.out.cell (World.block_lt_of_cell? w _ hx838_5)).trans hx838_5
       replace hx838_6 := (HB.out.cell (World.block_lt_of_cell? w _ hx838_6)).trans hx838_6
       have HR838_4 := Aside0.mk hi838_4
       have HC838_4 := Aside0.mk hl838_4
       clear hi838_4 hl838_4
       have HR838_5 := Aside0.mk hi838_5
       have HC838_5 := Aside0.mk hl838_5
       clear hi838_5 hl838_5
       have HR838_6 := Aside0.mk hi838_6
       have HC838_6 := Aside0.mk hl838_6
       clear hi838_6 hl838_6
       replace p838 := eq_true p838
       replace q838 := eq_true q838
       go_wp2_with (first | ((with_reducible refine gate_dst (N := 4) rfl ?_); refine box_event ?hg (N := 4) ?hd (cs := #[.int .i64 0, .int .i64 0, .int .i64 0, .int .i64 0, .slice none 0 0, .slice none 0 0, .slice none 0 0]) (t := 115) ?hr ?_; (case hd => rfl); (case hg => rfl); (case hr => first | (go_simp; done) | (go_simp; rfl)); intro gb839 hg w10 hbox hb; have n0_ := Aside0.mk (below_step (by repeat (first | (with_reducible first | exact HB.out | apply below_alloc | apply pw_below_drewN | apply below_drew1) | exact HB.out)) hb); have n1_ := Aside0.mk (hbox); have n2_ := Aside0.mk ((by rw [hg]; exact (below_size (by repeat (first | (with_reducible first | exact HB.out | apply below_alloc | apply pw_below_drewN | apply below_drew1) | exact HB.out))) : w.heap.size ≤ gb839)); have n3_ := Aside0.mk ((by rw [hg]; exact (below_size (by repeat (first | (with_reducible first | exact HB.out | apply below_alloc | apply pw_below_drewN | apply below_drew1) | exact HB.out))) : w.heap.size ≤ gb839)); clear HB; have HB := n0_; have BK839 := n1_; have GW839 := n2_; have GE839 := n3_; clear n0_ n1_ n2_ n3_; clear hb hbox hg; have hcz11_0 : w10.cell? ⟨gb839, 0, none⟩ = some (.int .i64 0) := (blk_cell BK839.out 0).trans rfl; have hcz11_1 : w10.cell? ⟨gb839, 1, none⟩ = some (.int .i64 0) := (blk_cell BK839.out 1).trans rfl; have hcz11_2 : w10.cell? ⟨gb839, 2, none⟩ = some (.int .i64 0) := (blk_cell BK839.out 2).trans rfl; have hcz11_3 : w10.cell? ⟨gb839, 3, none⟩ = some (.int .i64 0) := (blk_cell BK839.out 3).trans rfl; have hcz11_4 : w10.cell? ⟨gb839, 4, none⟩ = some (.slice none 0 0) := (blk_cell BK839.out 4).trans rfl; have hcz11_5 : w10.cell? ⟨gb839, 5, none⟩ = some (.slice none 0 0) := (blk_cell BK839.out 5).trans rfl; have hcz11_6 : w10.cell? ⟨gb839, 6, none⟩ = some (.slice none 0 0) := (blk_cell BK839.out 6).trans rfl; have hfz11_0 := blk_frozen BK839.out 0; have hfz11_1 := blk_frozen BK839.out 1; have hfz11_2 := blk_frozen BK839.out 2; have hfz11_3 := blk_frozen BK839.out 3; have hfz11_4 := blk_frozen BK839.out 4; have hfz11_5 := blk_frozen BK839.out 5; have hfz11_6 := blk_frozen BK839.out 6) | ((with_reducible refine gate_callee (f := 84) rfl ?_); refine goesL_ (some 13) rfl rfl Try.func84 (by kernel_rfl) rfl #[.slice (some ad838) l0.length c0, .agg #[.int .i64 ((rd_T115 l0 x7_1).f0), .int .i64 ((rd_T115 l0 x7_1).f1), .int .i64 ((rd_T115 l0 x7_1).f2), .int .i64 ((rd_T115 l0 x7_1).f3), .slice A838_4 ((rd_T115 l0 x7_1).f4).length c838_4, .slice A838_5 ((rd_T115 l0 x7_1).f5).length c838_5, .slice A838_6 ((rd_T115 l0 x7_1).f6).length c838_6]] rfl (by (try simp only [List.map_toArray, List.map_cons, List.map_nil]); first | done | rfl | (simp only [List.length_drop, List.length_take]; rfl)) ?_; (with_reducible refine (spec_l11Ins.calls k1 _ _ l0 ((rd_T115 l0 x7_1).f0) ((rd_T115 l0 x7_1).f1) ((rd_T115 l0 x7_1).f2) ((rd_T115 l0 x7_1).f3) _ _ ((rd_T115 l0 x7_1).f4) _ _ ((rd_T115 l0 x7_1).f5) _ _ ((rd_T115 l0 x7_1).f6) false _ ?side1 ?side2 ?side3 ?side4 ?side5 ?side6 ?side7 ?side8 A5.out).mono ?_); (case side1 => exact Kd.C_below HR0.out (by repeat (first | (with_reducible first | exact HB.out | apply below_alloc | apply pw_below_drewN | apply below_drew1 | refine below_set ?_ GE839.out) | exact HB.out))); (case side2 => exact HC0.out); (case side3 => exact Kd.C_below HR838_4.out (by repeat (first | (with_reducible first | exact HB.out | apply below_alloc | apply pw_below_drewN | apply below_drew1 | refine below_set ?_ GE839.out) | exact HB.out))); (case side4 => exact HC838_4.out); (case side5 => exact Kd.C_below HR838_5.out (by repeat (first | (with_reducible first | exact HB.out | apply below_alloc | apply pw_below_drewN | apply below_drew1 | refine below_set ?_ GE839.out) | exact HB.out))); (case side6 => exact HC838_5.out); (case side7 => exact Kd.C_below HR838_6.out (by repeat (first | (with_reducible first | exact HB.out | apply below_alloc | apply pw_below_drewN | apply below_drew1 | refine below_set ?_ GE839.out) | exact HB.out))); (case side8 => exact HC838_6.out); rintro e w12 ⟨rfl, hb⟩; refine ⟨_, rfl, ?_⟩; have n0_ := Aside0.mk (blk_below (g := gb839) (o := .cells #[.int .i64 ((rd_T115 l0 x7_1).f0), .int .i64 ((rd_T115 l0 x7_1).f1), .int .i64 ((rd_T115 l0 x7_1).f2), .int .i64 ((rd_T115 l0 x7_1).f3), .slice A838_4 ((rd_T115 l0 x7_1).f4).length c838_4, .slice A838_5 ((rd_T115 l0 x7_1).f5).length c838_5, .slice A838_6 ((rd_T115 l0 x7_1).f6).length c838_6] 115 (0, 0)) (by (with_reducible repeat (first | refine blk_drewN ?_ _ | refine blk_drew ?_ | refine blk_alloc ?_ _)); refine blk_put (cs := #[.int .i64 ((rd_T115 l0 x7_1).f0), .int .i64 ((rd_T115 l0 x7_1).f1), .int .i64 ((rd_T115 l0 x7_1).f2), .int .i64 ((rd_T115 l0 x7_1).f3), .slice A838_4 ((rd_T115 l0 x7_1).f4).length c838_4, .slice A838_5 ((rd_T115 l0 x7_1).f5).length c838_5, .slice none 0 0]) ?_ 6 _ rfl; (with_reducible repeat (first | refine blk_drewN ?_ _ | refine blk_drew ?_ | refine blk_alloc ?_ _)); refine blk_put (cs := #[.int .i64 ((rd_T115 l0 x7_1).f0), .int .i64 ((rd_T115 l0 x7_1).f1), .int .i64 ((rd_T115 l0 x7_1).f2), .int .i64 ((rd_T115 l0 x7_1).f3), .slice A838_4 ((rd_T115 l0 x7_1).f4).length c838_4, .slice none 0 0, .slice none 0 0]) ?_ 5 _ rfl; (with_reducible repeat (first | refine blk_drewN ?_ _ | refine blk_drew ?_ | refine blk_alloc ?_ _)); refine blk_put (cs := #[.int .i64 ((rd_T115 l0 x7_1).f0), .int .i64 ((rd_T115 l0 x7_1).f1), .int .i64 ((rd_T115 l0 x7_1).f2), .int .i64 ((rd_T115 l0 x7_1).f3), .slice none 0 0, .slice none 0 0, .slice none 0 0]) ?_ 4 _ rfl; (with_reducible repeat (first | refine blk_drewN ?_ _ | refine blk_drew ?_ | refine blk_alloc ?_ _)); refine blk_put (cs := #[.int .i64 ((rd_T115 l0 x7_1).f0), .int .i64 ((rd_T115 l0 x7_1).f1), .int .i64 ((rd_T115 l0 x7_1).f2), .int .i64 0, .slice none 0 0, .slice none 0 0, .slice none 0 0]) ?_ 3 _ rfl; (with_reducible repeat (first | refine blk_drewN ?_ _ | refine blk_drew ?_ | refine blk_alloc ?_ _)); refine blk_put (cs := #[.int .i64 ((rd_T115 l0 x7_1).f0), .int .i64 ((rd_T115 l0 x7_1).f1), .int .i64 0, .int .i64 0, .slice none 0 0, .slice none 0 0, .slice none 0 0]) ?_ 2 _ rfl; (with_reducible repeat (first | refine blk_drewN ?_ _ | refine blk_drew ?_ | refine blk_alloc ?_ _)); refine blk_put (cs := #[.int .i64 ((rd_T115 l0 x7_1).f0), .int .i64 0, .int .i64 0, .int .i64 0, .slice none 0 0, .slice none 0 0, .slice none 0 0]) ?_ 1 _ rfl; (with_reducible repeat (first | refine blk_drewN ?_ _ | refine blk_drew ?_ | refine blk_alloc ?_ _)); refine blk_put (cs := #[.int .i64 0, .int .i64 0, .int .i64 0, .int .i64 0, .slice none 0 0, .slice none 0 0, .slice none 0 0]) ?_ 0 _ rfl; (with_reducible repeat (first | refine blk_drewN ?_ _ | refine blk_drew ?_ | refine blk_alloc ?_ _)); exact BK839.out) hb); have n1_ := Aside0.mk (below_step (by repeat (first | (with_reducible first | exact HB.out | apply below_alloc | apply pw_below_drewN | apply below_drew1 | refine below_set ?_ GE839.out) | exact HB.out)) hb); clear BK839; clear HB; have BK839 := n0_; have HB := n1_; clear n0_ n1_; (try clear hb); (try clear hb2); (try clear hk); (try clear hi)))
       go_ret
       exact ⟨by first | rfl | (simp [errW_none, errW_some] <;> rfl) | (simp [*, errW_none, errW_some] <;> rfl), by repeat (first | (with_reducible first | exact HB.out | apply below_alloc | apply pw_below_drewN | apply below_drew1 | refine below_set ?_ GE839.out) | exact HB.out)⟩
     ·rw [if_neg c4] at H
      exact absurd H (by simp)
    ·rw [if_neg c3] at H
     exact absurd H (by simp)
   ·rw [if_neg c2] at H
    have c2b0 : decide (x7_1 < (l0.length : Int)) = false := decide_eq_false c2
    clear c2
    obtain rfl := Option.some.inj H
    go_wp2
    go_ret
    exact ⟨by first | rfl | (simp [errW_none, errW_some] <;> rfl) | (simp [*, errW_none, errW_some] <;> rfl), by repeat (first | (with_reducible first | exact HB.out | apply below_alloc | apply pw_below_drewN | apply below_drew1) | exact HB.out)⟩

def laws_toClause.f (k : Nat) (a0_0 : Int) (l0_1 : List (S87)) : Option (Int × (List (S89))) := (laws_toReS.f k l0_1).bind fun t844 => (some (a0_0, t844))
theorem laws_toClause.mono : ∀ a0 a1 k, LeO (laws_toClause.f k a0 a1) (laws_toClause.f (k + 1) a0 a1) := by
 intro a0 a1 k
 unfold laws_toClause.f
 repeat' first
   | (with_reducible exact laws_toReS.mono _ _)
   | (with_reducible exact LeO.refl _)
   | (with_reducible exact LeO.none _)
   | (with_reducible refine LeO.ite ?_ ?_)
   | (with_reducible refine LeO.bind ?_ (fun _ => ?_))
   | exact laws_toReS.mono _ _
   | exact LeO.none _
   | refine LeO.ite ?_ ?_
   | refine LeO.bind ?_ (fun _ => ?_)
set_option maxHeartbeats 8000000 in
set_option maxRecDepth 100000 in
theorem laws_toClause.calls (k : Nat) (a0_0 : Int) (A0_1 : Option Addr) (c0_1 : Nat) (l0_1 : List (S87)) (r1 : Int) (r2 : List (S89)) (w : World) (hr0_1 : Kd.C k87 w A0_1 l0_1.length l0_1) (hc0_1 : l0_1.length ≤ c0_1) (h : laws_toClause.f k a0_0 l0_1 = some (r1, r2)) :
  Calls Try.prog 165 #[.agg #[.int .i64 a0_0, .slice A0_1 l0_1.length c0_1]] w fun e w' => ∃ v1_ : Value, e = .returned (.agg #[.int .i64 r1, v1_]) ∧ Kd.S k89 89 w' w.heap.size (fun _ => True) v1_ r2 ∧ Below w.heap.size w w' := by
 have hu176 := Try.underlying176
 have hu178 := Try.underlying178
 have HR0_1 := Aside0.mk hr0_1
 have HC0_1 := Aside0.mk hc0_1
 clear hr0_1 hc0_1
 have HB := Aside0.mk (Below.refl w.heap.size w)
 have H : ((laws_toReS.f k l0_1).bind fun t844 => (some (a0_0, t844))) = some (r1, r2) := h
 clear h
 replace H := Option.bind_eq_some_iff.mp H
 obtain ⟨t844, A20, H⟩ := H
 replace H : (some (a0_0, t844)) = some (r1, r2) := H
 have A2 := Aside0.mk A20
 clear A20
 simp only [Option.some.injEq, Prod.mk.injEq] at H
 obtain ⟨rfl, rfl⟩ := H
 go_enter Try.func165, Try.ntmps165
 go_wp2_with (first | ((with_reducible refine gate_dst (N := 1) rfl ?_); refine box_event ?hg (N := 1) ?hd (cs := #[.int .i64 a0_0, .slice A0_1 l0_1.length c0_1]) (t := 176) ?hr ?_; (case hd => rfl); (case hg => rfl); (case hr => first | (go_simp; done) | (go_simp; rfl)); intro gb841 hg w3 hbox hb; have n0_ := Aside0.mk (below_step (by repeat (first | (with_reducible first | exact HB.out | apply below_alloc | apply pw_below_drewN | apply below_drew1) | exact HB.out)) hb); have n1_ := Aside0.mk (hbox); have n2_ := Aside0.mk ((by rw [hg]; exact (below_size (by repeat (first | (with_reducible first | exact HB.out | apply below_alloc | apply pw_below_drewN | apply below_drew1) | exact HB.out))) : w.heap.size ≤ gb841)); have n3_ := Aside0.mk ((by rw [hg]; exact (below_size (by repeat (first | (with_reducible first | exact HB.out | apply below_alloc | apply pw_below_drewN | apply below_drew1) | exact HB.out))) : w.heap.size ≤ gb841)); clear HB; have HB := n0_; have BK841 := n1_; have GW841 := n2_; have GE841 := n3_; clear n0_ n1_ n2_ n3_; clear hb hbox hg) | ((with_reducible refine gate_dst (N := 2) rfl ?_); refine box_event ?hg (N := 2) ?hd (cs := #[.int .i64 0, .slice none 0 0]) (t := 178) ?hr ?_; (case hd => rfl); (case hg => rfl); (case hr => first | (go_simp; done) | (go_simp; rfl)); intro gb842 hg w4 hbox hb; have n0_ := Aside0.mk (blk_below (g := gb841) (o := .cells #[.int .i64 a0_0, .slice A0_1 l0_1.length c0_1] 176 (0, 0)) (by (with_reducible repeat (first | refine blk_drewN ?_ _ | refine blk_drew ?_ | refine blk_alloc ?_ _)); exact BK841.out) hb); have n1_ := Aside0.mk (below_step (by repeat (first | (with_reducible first | exact HB.out | apply below_alloc | apply pw_below_drewN | apply below_drew1 | refine below_set ?_ GE841.out) | exact HB.out)) hb); have n2_ := Aside0.mk (hbox); have n3_ := Aside0.mk ((by rw [hg]; exact (below_size (by repeat (first | (with_reducible first | exact HB.out | apply below_alloc | apply pw_below_drewN | apply below_drew1 | refine below_set ?_ GE841.out) | exact HB.out))) : w.heap.size ≤ gb842)); have n4_ := Aside0.mk ((by rw [hg]; exact (below_size (by repeat (first | (with_reducible first | exact HB.out | apply below_alloc | apply pw_below_drewN | apply below_drew1 | refine below_set ?_ GE841.out) | exact HB.out))) : w.heap.size ≤ gb842)); have n5_ := Aside0.mk ((by rw [hg]; exact Nat.ne_of_lt (blk_lt (g := gb841) (o := .cells #[.int .i64 a0_0, .slice A0_1 l0_1.length c0_1] 176 (0, 0)) (by (with_reducible repeat (first | refine blk_drewN ?_ _ | refine blk_drew ?_ | refine blk_alloc ?_ _)); exact BK841.out)) : gb841 ≠ gb842)); have n6_ := Aside0.mk ((by rw [hg]; exact Nat.ne_of_gt (blk_lt (g := gb841) (o := .cells #[.int .i64 a0_0, .slice A0_1 l0_1.length c0_1] 176 (0, 0)) (by (with_reducible repeat (first | refine blk_drewN ?_ _ | refine blk_drew ?_ | refine blk_alloc ?_ _)); exact BK841.out)) : gb842 ≠ gb841)); clear BK841; clear HB; have BK841 := n0_; have HB := n1_; have BK842 := n2_; have GW842 := n3_; have GE842 := n4_; have NB841_842 := n5_; have NB842_841 := n6_; clear n0_ n1_ n2_ n3_ n4_ n5_ n6_; clear hb hbox hg) | ((with_reducible refine gate_dst (N := 3) rfl ?_); refine box_event ?hg (N := 3) ?hd (cs := #[.int .i64 0, .slice none 0 0]) (t := 178) ?hr ?_; (case hd => rfl); (case hg => rfl); (case hr => first | (go_simp; done) | (go_simp; rfl)); intro gb843 hg w5 hbox hb; have n0_ := Aside0.mk (blk_below (g := gb841) (o := .cells #[.int .i64 a0_0, .slice A0_1 l0_1.length c0_1] 176 (0, 0)) (by (with_reducible repeat (first | refine blk_drewN ?_ _ | refine blk_drew ?_ | refine blk_alloc ?_ _)); exact BK841.out) hb); have n1_ := Aside0.mk (blk_below (g := gb842) (o := .cells #[.int .i64 0, .slice none 0 0] 178 (0, 0)) (by (with_reducible repeat (first | refine blk_drewN ?_ _ | refine blk_drew ?_ | refine blk_alloc ?_ _)); exact BK842.out) hb); have n2_ := Aside0.mk (below_step (by repeat (first | (with_reducible first | exact HB.out | apply below_alloc | apply pw_below_drewN | apply below_drew1 | refine below_set ?_ GE841.out | refine below_set ?_ GE842.out) | exact HB.out)) hb); have n3_ := Aside0.mk (hbox); have n4_ := Aside0.mk ((by rw [hg]; exact (below_size (by repeat (first | (with_reducible first | exact HB.out | apply below_alloc | apply pw_below_drewN | apply below_drew1 | refine below_set ?_ GE841.out | refine below_set ?_ GE842.out) | exact HB.out))) : w.heap.size ≤ gb843)); have n5_ := Aside0.mk ((by rw [hg]; exact (below_size (by repeat (first | (with_reducible first | exact HB.out | apply below_alloc | apply pw_below_drewN | apply below_drew1 | refine below_set ?_ GE841.out | refine below_set ?_ GE842.out) | exact HB.out))) : w.heap.size ≤ gb843)); have n6_ := Aside0.mk ((by rw [hg]; exact Nat.ne_of_lt (blk_lt (g := gb841) (o := .cells #[.int .i64 a0_0, .slice A0_1 l0_1.length c0_1] 176 (0, 0)) (by (with_reducible repeat (first | refine blk_drewN ?_ _ | refine blk_drew ?_ | refine blk_alloc ?_ _)); exact BK841.out)) : gb841 ≠ gb843)); have n7_ := Aside0.mk ((by rw [hg]; exact Nat.ne_of_gt (blk_lt (g := gb841) (o := .cells #[.int .i64 a0_0, .slice A0_1 l0_1.length c0_1] 176 (0, 0)) (by (with_reducible repeat (first | refine blk_drewN ?_ _ | refine blk_drew ?_ | refine blk_alloc ?_ _)); exact BK841.out)) : gb843 ≠ gb841)); have n8_ := Aside0.mk ((by rw [hg]; exact Nat.ne_of_lt (blk_lt (g := gb842) (o := .cells #[.int .i64 0, .slice none 0 0] 178 (0, 0)) (by (with_reducible repeat (first | refine blk_drewN ?_ _ | refine blk_drew ?_ | refine blk_alloc ?_ _)); exact BK842.out)) : gb842 ≠ gb843)); have n9_ := Aside0.mk ((by rw [hg]; exact Nat.ne_of_gt (blk_lt (g := gb842) (o := .cells #[.int .i64 0, .slice none 0 0] 178 (0, 0)) (by (with_reducible repeat (first | refine blk_drewN ?_ _ | refine blk_drew ?_ | refine blk_alloc ?_ _)); exact BK842.out)) : gb843 ≠ gb842)); clear BK841; clear BK842; clear HB; have BK841 := n0_; have BK842 := n1_; have HB := n2_; have BK843 := n3_; have GW843 := n4_; have GE843 := n5_; have NB841_843 := n6_; have NB843_841 := n7_; have NB842_843 := n8_; have NB843_842 := n9_; clear n0_ n1_ n2_ n3_ n4_ n5_ n6_ n7_ n8_ n9_; clear hb hbox hg; have hnb6 := NB841_842.out; have hnc6 := NB842_841.out; have hnb7 := NB841_843.out; have hnc7 := NB843_841.out; have hcz8_0 : w5.cell? ⟨gb841, 0, none⟩ = some (.int .i64 a0_0) := (blk_cell BK841.out 0).trans rfl; have hcz8_1 : w5.cell? ⟨gb841, 1, none⟩ = some (.slice A0_1 l0_1.length c0_1) := (blk_cell BK841.out 1).trans rfl; have hfz8_0 := blk_frozen BK841.out 0; have hfz8_1 := blk_frozen BK841.out 1; have hnb9 := NB843_842.out; have hnc9 := NB842_843.out; have hcz10_0 : w5.cell? ⟨gb843, 0, none⟩ = some (.int .i64 0) := (blk_cell BK843.out 0).trans rfl; have hcz10_1 : w5.cell? ⟨gb843, 1, none⟩ = some (.slice none 0 0) := (blk_cell BK843.out 1).trans rfl; have hfz10_0 := blk_frozen BK843.out 0; have hfz10_1 := blk_frozen BK843.out 1) | ((with_reducible refine gate_callee (f := 15) rfl ?_); refine goesL_ (some 9) rfl rfl Try.func15 (by kernel_rfl) rfl #[.slice A0_1 l0_1.length c0_1] rfl (by (try simp only [List.map_toArray, List.map_cons, List.map_nil]); first | done | rfl | (simp only [List.length_drop, List.length_take]; rfl)) ?_; (with_reducible refine (laws_toReS.calls k _ _ l0_1 t844 _ ?side1 ?side2 A2.out).mono ?_); (case side1 => exact Kd.C_below HR0_1.out (by repeat (first | (with_reducible first | exact HB.out | apply below_alloc | apply pw_below_drewN | apply below_drew1 | refine below_set ?_ GE841.out | refine below_set ?_ GE842.out | refine below_set ?_ GE843.out) | exact HB.out))); (case side2 => exact HC0_1.out); rintro e w11 ⟨v845, rfl, ho0, hb⟩; refine ⟨_, rfl, ?_⟩; have n0_ := Aside0.mk (Kd.S_lower ho0 (below_size (by repeat (first | (with_reducible first | exact HB.out | apply below_alloc | apply pw_below_drewN | apply below_drew1 | refine below_set ?_ GE841.out | refine below_set ?_ GE842.out | refine below_set ?_ GE843.out) | exact HB.out)))); have n1_ := Aside0.mk (blk_below (g := gb841) (o := .cells #[.int .i64 a0_0, .slice A0_1 l0_1.length c0_1] 176 (0, 0)) (by (with_reducible repeat (first | refine blk_drewN ?_ _ | refine blk_drew ?_ | refine blk_alloc ?_ _)); refine blk_far ?_ NB841_843.out _; (with_reducible repeat (first | refine blk_drewN ?_ _ | refine blk_drew ?_ | refine blk_alloc ?_ _)); exact BK841.out) hb); have n2_ := Aside0.mk (blk_below (g := gb842) (o := .cells #[.int .i64 0, .slice none 0 0] 178 (0, 0)) (by (with_reducible repeat (first | refine blk_drewN ?_ _ | refine blk_drew ?_ | refine blk_alloc ?_ _)); refine blk_far ?_ NB842_843.out _; (with_reducible repeat (first | refine blk_drewN ?_ _ | refine blk_drew ?_ | refine blk_alloc ?_ _)); exact BK842.out) hb); have n3_ := Aside0.mk (blk_below (g := gb843) (o := .cells #[.int .i64 a0_0, .slice none 0 0] 178 (0, 0)) (by (with_reducible repeat (first | refine blk_drewN ?_ _ | refine blk_drew ?_ | refine blk_alloc ?_ _)); refine blk_put (cs := #[.int .i64 0, .slice none 0 0]) ?_ 0 _ rfl; (with_reducible repeat (first | refine blk_drewN ?_ _ | refine blk_drew ?_ | refine blk_alloc ?_ _)); exact BK843.out) hb); have n4_ := Aside0.mk (below_step (by repeat (first | (with_reducible first | exact HB.out | apply below_alloc | apply pw_below_drewN | apply below_drew1 | refine below_set ?_ GE841.out | refine below_set ?_ GE842.out | refine below_set ?_ GE843.out) | exact HB.out)) hb); clear BK841; clear BK842; clear BK843; clear HB; have HO846 := n0_; have BK841 := n1_; have BK842 := n2_; have BK843 := n3_; have HB := n4_; clear n0_ n1_ n2_ n3_ n4_; (try clear hb); (try clear hb2); (try clear hk); (try clear hi); (try clear ho0); obtain ⟨Ao12, co12, eo12⟩ := Kd.S_slice HO846.out; subst eo12; have hcz13_0 : w11.cell? ⟨gb843, 0, none⟩ = some (.int .i64 a0_0) := (blk_cell BK843.out 0).trans rfl; have hcz13_1 : w11.cell? ⟨gb843, 1, none⟩ = some (.slice none 0 0) := (blk_cell BK843.out 1).trans rfl; have hfz13_0 := blk_frozen BK843.out 0; have hfz13_1 := blk_frozen BK843.out 1; have hcz14_0 : w11.cell? ⟨gb842, 0, none⟩ = some (.int .i64 0) := (blk_cell BK842.out 0).trans rfl; have hcz14_1 : w11.cell? ⟨gb842, 1, none⟩ = some (.slice none 0 0) := (blk_cell BK842.out 1).trans rfl; have hfz14_0 := blk_frozen BK842.out 0; have hfz14_1 := blk_frozen BK842.out 1))
 refine bodyPost_ret (results_cell_row rfl _ _ gb842 178 #[.int .i64 a0_0, .slice Ao12 t844.length co12] (0, 0) _ rfl (by (with_reducible repeat (first | refine blk_drewN ?_ _ | refine blk_drew ?_ | refine blk_alloc ?_ _)); refine blk_put (cs := #[.int .i64 a0_0, .slice none 0 0]) ?_ 1 _ rfl; (with_reducible repeat (first | refine blk_drewN ?_ _ | refine blk_drew ?_ | refine blk_alloc ?_ _)); refine blk_put (cs := #[.int .i64 0, .slice none 0 0]) ?_ 0 _ rfl; (with_reducible repeat (first | refine blk_drewN ?_ _ | refine blk_drew ?_ | refine blk_alloc ?_ _)); refine blk_far ?_ NB842_843.out _; (with_reducible repeat (first | refine blk_drewN ?_ _ | refine blk_drew ?_ | refine blk_alloc ?_ _)); exact BK842.out) Try.underlying178 rfl (by kernel_rfl)) rfl ?_
 exact ⟨_, by first | rfl | (simp [errW_none, errW_some] <;> rfl) | (simp [*, errW_none, errW_some] <;> rfl), by (with_reducible repeat (first | apply Kd.S_alloc | apply Kd.S_drewN | apply Kd.S_drew)); exact Kd.S_mono (Kd.S_far (p := ⟨gb842, 1, none⟩) (Kd.S_far (p := ⟨gb842, 0, none⟩) (Kd.S_far (p := ⟨gb843, 1, none⟩) (Kd.S_types (Kd.S_types HO846.out BK843.out (by decide)) BK842.out (by decide)) (fun _ hk => hk.1.2) (.slice Ao12 t844.length co12)) (fun _ hk => hk.2) (.int .i64 a0_0)) (fun _ hk => hk.2) (.slice Ao12 t844.length co12)) (fun _ hk => trivial), by repeat (first | (with_reducible first | exact HB.out | apply below_alloc | apply pw_below_drewN | apply below_drew1 | refine below_set ?_ GE841.out | refine below_set ?_ GE842.out | refine below_set ?_ GE843.out) | exact HB.out)⟩

def laws_toClauseS.l0 : Nat → List (S176) → List (S178) → Int → Option ((List (S178)))
 | 0, _, _, _ => none
 | k + 1, x0, x3, x4 => if x4 < (x0.length : Int) then (if 0 ≤ x4 then ((laws_toClause.f k ((rd_T176 x0 x4).f0) ((rd_T176 x0 x4).f1)).bind fun bt851 => (if x4 < (x3.length : Int) then (laws_toClauseS.l0 k x0 (x3.set (x4 : Int).toNat (⟨bt851.1, bt851.2⟩ : S178)) (wrap64 (x4 + 1))) else (none))) else (none)) else (some x3)
def laws_toClauseS.f (k : Nat) (l0 : List (S176)) : Option ((List (S178))) := if 0 ≤ (l0.length : Int) then (if ((l0.length : Int) : Int).toNat ≤ 8796093022208 then (laws_toClauseS.l0 k l0 (List.replicate ((l0.length : Int) : Int).toNat z178) 0) else (none)) else (none)
theorem laws_toClauseS.mono_l : ∀ k, (∀ y0 y1 y2, LeO (laws_toClauseS.l0 k y0 y1 y2) (laws_toClauseS.l0 (k + 1) y0 y1 y2))
 | 0 => fun _ _ _ r h => by simp [laws_toClauseS.l0] at h
 | k + 1 => by
  have ih0 := laws_toClauseS.mono_l k
  ·intro y0 y1 y2
   unfold laws_toClauseS.l0
   repeat' first
   | (with_reducible exact ih0 _ _ _)
   | (with_reducible exact laws_toClause.mono _ _ _)
   | (with_reducible exact LeO.refl _)
   | (with_reducible exact LeO.none _)
   | (with_reducible refine LeO.ite ?_ ?_)
   | (with_reducible refine LeO.bind ?_ (fun _ => ?_))
   | exact ih0 _ _ _
   | exact laws_toClause.mono _ _ _
   | exact LeO.none _
   | refine LeO.ite ?_ ?_
   | refine LeO.bind ?_ (fun _ => ?_)
theorem laws_toClauseS.mono : ∀ a0 k, LeO (laws_toClauseS.f k a0) (laws_toClauseS.f (k + 1) a0) := by
 intro a0 k
 have ih0 := laws_toClauseS.mono_l k
 unfold laws_toClauseS.f
 repeat' first
   | (with_reducible exact ih0 _ _ _)
   | (with_reducible exact laws_toClause.mono _ _ _)
   | (with_reducible exact LeO.refl _)
   | (with_reducible exact LeO.none _)
   | (with_reducible refine LeO.ite ?_ ?_)
   | (with_reducible refine LeO.bind ?_ (fun _ => ?_))
   | exact ih0 _ _ _
   | exact laws_toClause.mono _ _ _
   | exact LeO.none _
   | refine LeO.ite ?_ ?_
   | refine LeO.bind ?_ (fun _ => ?_)
set_option maxHeartbeats 8000000 in
set_option maxRecDepth 100000 in
theorem laws_toClauseS.calls (k : Nat) (A0 : Option Addr) (c0 : Nat) (l0 : List (S176)) (r : List (S178)) (w : World) (hr0 : Kd.C k176 w A0 l0.length l0) (hc0 : l0.length ≤ c0) (h : laws_toClauseS.f k l0 = some r) :
  Calls Try.prog 131 #[.slice A0 l0.length c0] w fun e w' => ∃ v0_ : Value, e = .returned (v0_) ∧ Kd.R k178 178 w' w.heap.size (fun _ => True) v0_ r ∧ Below w.heap.size w w' := by
 have hu176 := Try.underlying176
 have hu178 := Try.underlying178
 have HR0 := Aside0.mk hr0
 have HC0 := Aside0.mk hc0
 clear hr0 hc0
 have HB := Aside0.mk (Below.refl w.heap.size w)
 have H : (if 0 ≤ (l0.length : Int) then (if ((l0.length : Int) : Int).toNat ≤ 8796093022208 then (laws_toClauseS.l0 k l0 (List.replicate ((l0.length : Int) : Int).toNat z178) 0) else (none)) else (none)) = some r := h
 clear h
 by_cases c2 : 0 ≤ (l0.length : Int)
 ·rw [if_pos c2] at H
  have c2b0 := eq_true c2
  have c2b1 : decide (0 ≤ (l0.length : Int)) = true := decide_eq_true c2
  clear c2
  by_cases c3 : ((l0.length : Int) : Int).toNat ≤ 8796093022208
  ·rw [if_pos c3] at H
   have c3b0 := eq_true c3
   have c3b1 : decide (((l0.length : Int) : Int).toNat ≤ 8796093022208) = true := decide_eq_true c3
   clear c3
   obtain ⟨y847, hy847⟩ : ∃ y_ : List (S178), y_ = (List.replicate ((l0.length : Int) : Int).toNat z178) := ⟨_, rfl⟩
   replace H : (laws_toClauseS.l0 k l0 y847 0) = some r := by first | (rw [hy847]; with_reducible exact H) | (have H2_ := (Option.bind_some _ _).symm.trans H; rw [hy847]; with_reducible exact H2_) | (have H2_ := (Option.bind_some _ _).symm.trans H; with_reducible exact H2_) | with_reducible exact H | (rw [hy847]; exact H) | exact H
   have Ny847 := Aside0.mk hy847
   clear hy847
   have H' := Aside0.mk H
   clear H
   go_enter Try.func131, Try.ntmps131
   go_wp2_with (first | ((with_reducible refine gate_dst (N := 7) rfl ?_); refine Kd.R_make k178 _ 178 rfl (N := 7) rfl 113 _ _ rfl (l0.length : Int) rfl rfl Try.underlying113 (.agg #[(.int .i64 0), (.slice none 0 0)]) 32 info178 rfl (by decide) (by omega) z178 (ok := fun _ => True) (okp := fun _ => True) (k178_mkM _ _ _ z178 (Kd.R_nil _ _ _ _ _)) (fun _ hk => hk) trivial (of_decide_eq_true (by first | (with_reducible assumption) | assumption)) (Nat.le_trans (Nat.mul_le_mul_right _ (of_decide_eq_true (by first | (with_reducible assumption) | assumption) : (l0.length : Int).toNat ≤ 8796093022208)) (by omega)) (Below.refl _ _) (Nat.le_refl _) ?_; intro v848 w4 ho5 hb hg_ hnew_; clear hg_ hnew_; (first | rw [← Ny847.out] at ho5 | (simp only [Int.reduceToNat] at ho5; rw [← Ny847.out] at ho5)); have n0_ := Aside0.mk (Kd.R_lower ho5 (below_size (by repeat (first | (with_reducible first | exact HB.out | apply below_alloc | apply pw_below_drewN | apply below_drew1) | exact HB.out)))); have n1_ := Aside0.mk (below_step (by repeat (first | (with_reducible first | exact HB.out | apply below_alloc | apply pw_below_drewN | apply below_drew1) | exact HB.out)) hb); clear HB; have HO849 := n0_; have HB := n1_; clear n0_ n1_; clear hb ho5))
   go_loopg [4] k (fun kq v4 w' => ∃ (x3_1 : List (S178)) (x4_1 : Int), v4 = .int .i64 x4_1 ∧ Aside0 (laws_toClauseS.l0 kq l0 x3_1 x4_1 = some r) ∧ Aside0 (kq ≤ k) ∧ Aside0 (Kd.R k178 178 w' w.heap.size (fun _ => True) v848 x3_1) ∧ Aside0 (Below w.heap.size w w'))
   case atStart => exact ⟨(y847), (0), (by first | rfl | (simp; done) | (simp [*]; done)), H', ⟨Nat.le_refl _⟩, ⟨by (with_reducible repeat (first | apply Kd.R_alloc | apply Kd.R_drewN | apply Kd.R_drew)); exact HO849.out⟩, ⟨by repeat (first | (with_reducible first | exact HB.out | apply below_alloc | apply pw_below_drewN | apply below_drew1) | exact HB.out)⟩⟩
   case round =>
    clear H'
    try clear c1
    try clear c2
    try clear c2b0
    try clear c2b1
    try clear p2
    try clear c3
    try clear c3b0
    try clear c3b1
    obtain ⟨x3_1, x4_1, rfl, HA, HK1, HO_3, HB⟩ := hrel
    cases gk with
    | zero => exact absurd HA.out (by simp [laws_toClauseS.l0])
    | succ k1 =>
     have H := HA.out
     clear HA
     simp only [laws_toClauseS.l0] at H
     by_cases c6 : x4_1 < (l0.length : Int)
     ·rw [if_pos c6] at H
      have c6b0 : decide (x4_1 < (l0.length : Int)) = true := decide_eq_true c6
      clear c6
      by_cases c7 : 0 ≤ x4_1
      ·rw [if_pos c7] at H
       have c7b0 : decide (0 ≤ x4_1) = true := decide_eq_true c7
       clear c7
       replace H := Option.bind_eq_some_iff.mp H
       obtain ⟨⟨t851, t852⟩, A80, H⟩ := H
       replace H : (if x4_1 < (x3_1.length : Int) then (laws_toClauseS.l0 k1 l0 (x3_1.set (x4_1 : Int).toNat (⟨t851, t852⟩ : S178)) (wrap64 (x4_1 + 1))) else (none)) = some r := H
       have A8 := Aside0.mk A80
       clear A80
       by_cases c9 : x4_1 < (x3_1.length : Int)
       ·rw [if_pos c9] at H
        have c9b0 : decide (x4_1 < (x3_1.length : Int)) = true := decide_eq_true c9
        clear c9
        obtain ⟨y855, hy855⟩ : ∃ y_ : List (S178), y_ = (x3_1.set (x4_1 : Int).toNat (⟨t851, t852⟩ : S178)) := ⟨_, rfl⟩
        replace H : (laws_toClauseS.l0 k1 l0 y855 (wrap64 (x4_1 + 1))) = some r := by first | (rw [hy855]; with_reducible exact H) | (have H2_ := (Option.bind_some _ _).symm.trans H; rw [hy855]; with_reducible exact H2_) | (have H2_ := (Option.bind_some _ _).symm.trans H; with_reducible exact H2_) | with_reducible exact H | (rw [hy855]; exact H) | exact H
        have Ny855 := Aside0.mk hy855
        clear hy855
        have H' := Aside0.mk H
        clear H
        have p850 : 0 ≤ (x4_1 : Int) := of_decide_eq_true (by first | (with_reducible assumption) | assumption)
        have q850 : x4_1 < (l0.length : Int) := of_decide_eq_true (by first | (with_reducible assumption) | assumption)
        obtain ⟨ad850, A850_1, c850_1, e850, hx850_0, hx850_1, hl850_1, hi850_1⟩ := at_T176 HR0.out x4_1 p850 q850
        cases e850
        replace hx850_0 := (HB.out.cell (World.block_lt_of_cell? w _ hx850_0)).trans hx850_0
        replace hx850_1 := (HB.out.cell (World.block_lt_of_cell? w _ hx850_1)).trans hx850_1
        have HR850_1 := Aside0.mk hi850_1
        have HC850_1 := Aside0.mk hl850_1
        clear hi850_1 hl850_1
        replace p850 := eq_true p850
        replace q850 := eq_true q850
        go_wp2_with (first | ((with_reducible refine gate_callee (f := 165) rfl ?_); refine goesL_ (some 20) rfl rfl Try.func165 (by kernel_rfl) rfl #[.agg #[.int .i64 ((rd_T176 l0 x4_1).f0), .slice A850_1 ((rd_T176 l0 x4_1).f1).length c850_1]] rfl (by (try simp only [List.map_toArray, List.map_cons, List.map_nil]); first | done | rfl | (simp only [List.length_drop, List.length_take]; rfl)) ?_; (with_reducible refine (laws_toClause.calls k1 ((rd_T176 l0 x4_1).f0) _ _ ((rd_T176 l0 x4_1).f1) t851 t852 _ ?side1 ?side2 A8.out).mono ?_); (case side1 => repeat (first | exact (Kd.C_below HR850_1.out HB.out) | (with_reducible refine Kd.C_alloc ?_ _) | (with_reducible refine Kd.C_drewN ?_ _) | (with_reducible refine Kd.C_drew ?_))); (case side2 => exact HC850_1.out); rintro e w11 ⟨v853, rfl, ho0, hb⟩; refine ⟨_, rfl, ?_⟩; have n0_ := Aside0.mk (Kd.R_elder' (by (with_reducible repeat (first | apply Kd.R_alloc | apply Kd.R_drewN | apply Kd.R_drew)); exact HO_3.out) (Kd.S_base ho0) hb); have n1_ := Aside0.mk (Kd.S_lower ho0 (below_size (by repeat (first | (with_reducible first | exact HB.out | apply below_alloc | apply pw_below_drewN | apply below_drew1) | exact HB.out)))); have n2_ := Aside0.mk (below_step (by repeat (first | (with_reducible first | exact HB.out | apply below_alloc | apply pw_below_drewN | apply below_drew1) | exact HB.out)) hb); clear HO_3; clear HB; have HO_3 := n0_; have HO854 := n1_; have HB := n2_; clear n0_ n1_ n2_; (try clear hb); (try clear hb2); (try clear hk); (try clear hi); (try clear ho0); have p10 : 0 ≤ (x4_1 : Int) := of_decide_eq_true (by first | (with_reducible assumption) | assumption); have q10 : (x4_1 : Int) < ((x3_1.length : Int) : Int) := of_decide_eq_true (by first | (with_reducible assumption) | assumption); obtain ⟨go10, co10, eo10, gb10, gl10, cl10, HG10⟩ := Kd.R_form HO_3.out (by omega); (first | cases eo10 | (injection eo10 with ea_ en_ ec_; (first | subst ea_ | (injection ea_ with ea_; subst ea_)); subst ec_; clear en_)); have GB10 := Aside0.mk gb10; have GG10 := Aside0.mk HG10; clear gb10 gl10 HG10; obtain ⟨ce10, hcl10, hM10, hcc10, hfr10⟩ := Kd.R_elem HO_3.out z178 (x4_1 : Int) p10 q10; obtain ⟨ve10_1, rfl, ge10_1⟩ := k178_openM hM10; have hx10_0 : w11.cell? ⟨go10, (x4_1 : Int).toNat * 2, none⟩ = some (.int .i64 ((rd_T178 x3_1 x4_1).f0)) := hcc10 0 _ rfl; have hx10_1 : w11.cell? ⟨go10, (x4_1 : Int).toNat * 2 + 1, none⟩ = some (ve10_1) := hcc10 1 _ rfl; have hf10_0 : w11.frozen? ⟨go10, (x4_1 : Int).toNat * 2, none⟩ = false := hfr10 0; have hf10_1 : w11.frozen? ⟨go10, (x4_1 : Int).toNat * 2 + 1, none⟩ = false := hfr10 1; (try clear hcl10); (try clear hcc10); (try clear hfr10); (try clear hM10); replace p10 := eq_true p10; replace q10 := eq_true q10; have n_ := Aside0.mk (Kd.R_mono (ok' := (fun k_ => some k_ ≠ (v853 : Value).ownBlock)) HO_3.out (fun k_ hk => hk.2)); clear HO_3; have HO_3 := n_; clear n_; have HX12 := Aside0.mk (show Kd.R k178 178 w11 w.heap.size (fun _ => True) (.slice (some ⟨go10, 0, none⟩) x3_1.length co10) x3_1 from (by (with_reducible repeat (first | apply Kd.R_alloc | apply Kd.R_drewN | apply Kd.R_drew)); exact Kd.R_mono HO_3.out (fun _ hk => trivial))); obtain ⟨ce12, hcl12, hM12, hcc12, hfr12⟩ := Kd.R_elem HX12.out z178 (x4_1 : Int) (of_decide_eq_true (by first | (with_reducible assumption) | assumption)) (by have h_ : (x4_1 : Int) < ((x3_1.length : Int) : Int) := of_decide_eq_true (by first | (with_reducible assumption) | assumption); first | exact h_ | (have e_ := (Kd.R_reads' HO_3.out).1; omega) | simpa using h_); obtain ⟨ve12_1, rfl, ge12_1⟩ := k178_openM hM12; have HP12 := Kd.R_seg HX12.out (x4_1 : Int) (of_decide_eq_true (by first | (with_reducible assumption) | assumption)) (by have h_ : (x4_1 : Int) < ((x3_1.length : Int) : Int) := of_decide_eq_true (by first | (with_reducible assumption) | assumption); first | exact h_ | (have e_ := (Kd.R_reads' HO_3.out).1; omega) | simpa using h_) (seg := [.int .i64 t851, v853]) (j := 0) hcl12 hcc12 (show 2 ≤ 2 from by decide) (x' := (⟨t851, t852⟩ : S178)) (k178_mkM _ _ _ (⟨t851, t852⟩ : S178) (Kd.R_mono (Kd.R_apart' ((Kd.S_R HO854.out)) (Kd.R_typed HO_3.out) (by decide)) (fun k_ hk => ⟨trivial, fun e_ => (hk.2) (by rw [e_]; rfl)⟩))) (fun _ hk => hk); have hx12_0 := hcc12 0 _ rfl; (try simp only [show (k178).sz = 2 from rfl, Nat.mul_one, Nat.add_zero] at hx12_0); have hf12_0 := hfr12 0; (try simp only [show (k178).sz = 2 from rfl, Nat.mul_one, Nat.add_zero] at hf12_0); have hx12_1 := hcc12 1 _ rfl; (try simp only [show (k178).sz = 2 from rfl, Nat.mul_one, Nat.add_zero] at hx12_1); have hf12_1 := hfr12 1; (try simp only [show (k178).sz = 2 from rfl, Nat.mul_one, Nat.add_zero] at hf12_1); (try clear hcl12); (try clear hcc12); (try clear hfr12); (try clear hM12)) | ((with_reducible refine gate_store (t := 178) (p := 21) rfl ?_); refine store_event (t := 178) (p := 21) (v := ?vo_w13) (w1 := ((w11.setCell ⟨go10, (x4_1 : Int).toNat * 2, none⟩ (.int .i64 t851)).setCell ⟨go10, (x4_1 : Int).toNat * 2 + 1, none⟩ (v853))) ?hg ?ho ?hn ?hr ?_; (case ho => rfl); (case hg => rfl); (case hn => rfl); (case hr => first | (go_simp; done) | (go_simp; rfl) | ((first | (have hq_ := Kd.S_slice HO854.out; obtain ⟨A_, c_, e_⟩ := hq_; subst e_) | (have hq_ := Kd.R_slice HO854.out; obtain ⟨A_, c_, e_⟩ := hq_; subst e_)); first | (go_simp; done) | (go_simp; rfl))); intro w13 hw; have hg : w11.grownBy w13 (some go10) := (by rw [hw]; exact HP12.2); have hp_ : Kd.R k178 178 w13 w.heap.size (fun _ => True) (.slice (some ⟨go10, 0, none⟩) x3_1.length co10) y855 := (by rw [hw, Ny855.out]; exact HP12.1); clear HP12; have n0_ := Aside0.mk (hp_); have n1_ := Aside0.mk ((by rw [hw]; exact below_set (below_set (HB.out) GB10.out) GB10.out : Below w.heap.size w w13)); clear HO_3; clear HB; clear HO854; have HO_3 := n0_; have HB := n1_; clear n0_ n1_; clear hg hw hp_))
        go_roundg k1
        case measure => have := HK1.out; omega
        case rel => exact ⟨(y855), (wrap64 (x4_1 + 1)), (by first | rfl | (simp; done) | (simp [*]; done)), H', ⟨by have := HK1.out; omega⟩, ⟨by (with_reducible repeat (first | apply Kd.R_alloc | apply Kd.R_drewN | apply Kd.R_drew)); exact HO_3.out⟩, ⟨by repeat (first | (with_reducible first | exact HB.out | apply below_alloc | apply pw_below_drewN | apply below_drew1) | exact HB.out)⟩⟩
       ·rw [if_neg c9] at H
        exact absurd H (by simp)
      ·rw [if_neg c7] at H
       exact absurd H (by simp)
     ·rw [if_neg c6] at H
      have c6b0 : decide (x4_1 < (l0.length : Int)) = false := decide_eq_false c6
      clear c6
      obtain rfl := Option.some.inj H
      go_wp2
      go_ret
      exact ⟨_, by first | rfl | (simp [errW_none, errW_some] <;> rfl) | (simp [*, errW_none, errW_some] <;> rfl), by (with_reducible repeat (first | apply Kd.R_alloc | apply Kd.R_drewN | apply Kd.R_drew)); exact HO_3.out, by repeat (first | (with_reducible first | exact HB.out | apply below_alloc | apply pw_below_drewN | apply below_drew1) | exact HB.out)⟩
  ·rw [if_neg c3] at H
   exact absurd H (by simp)
 ·rw [if_neg c2] at H
  exact absurd H (by simp)

def laws_toIns.f (k : Nat) (a0_0 : Int) (a0_1 : Int) (a0_2 : Int) (a0_3 : Int) (l0_4 : List Int) (l0_5 : List (S176)) (l0_6 : List Int) : Option (Int × Int × Int × Int × List Int × (List (S178)) × List Int) := (laws_toIntS.f k l0_4).bind fun t859 => ((laws_toClauseS.f k l0_5).bind fun t862 => ((laws_toIntS.f k l0_6).bind fun t865 => (some (a0_0, a0_1, a0_2, a0_3, t859, t862, t865))))
theorem laws_toIns.mono : ∀ a0 a1 a2 a3 a4 a5 a6 k, LeO (laws_toIns.f k a0 a1 a2 a3 a4 a5 a6) (laws_toIns.f (k + 1) a0 a1 a2 a3 a4 a5 a6) := by
 intro a0 a1 a2 a3 a4 a5 a6 k
 unfold laws_toIns.f
 repeat' first
   | (with_reducible exact laws_toClauseS.mono _ _)
   | (with_reducible exact laws_toIntS.mono _ _)
   | (with_reducible exact LeO.refl _)
   | (with_reducible exact LeO.none _)
   | (with_reducible refine LeO.ite ?_ ?_)
   | (with_reducible refine LeO.bind ?_ (fun _ => ?_))
   | exact laws_toClauseS.mono _ _
   | exact laws_toIntS.mono _ _
   | exact LeO.none _
   | refine LeO.ite ?_ ?_
   | refine LeO.bind ?_ (fun _ => ?_)
set_option maxHeartbeats 8000000 in
set_option maxRecDepth 100000 in
theorem laws_toIns.calls (k : Nat) (a0_0 : Int) (a0_1 : Int) (a0_2 : Int) (a0_3 : Int) (A0_4 : Option Addr) (c0_4 : Nat) (l0_4 : List Int) (A0_5 : Option Addr) (c0_5 : Nat) (l0_5 : List (S176)) (A0_6 : Option Addr) (c0_6 : Nat) (l0_6 : List Int) (r1 : Int) (r2 : Int) (r3 : Int) (r4 : Int) (r5 : List Int) (r6 : List (S178)) (r7 : List Int) (w : World) (hr0_4 : Kd.C (Kd.int .i64) w A0_4 l0_4.length l0_4) (hc0_4 : l0_4.length ≤ c0_4) (hr0_5 : Kd.C k176 w A0_5 l0_5.length l0_5) (hc0_5 : l0_5.length ≤ c0_5) (hr0_6 : Kd.C (Kd.int .i64) w A0_6 l0_6.length l0_6) (hc0_6 : l0_6.length ≤ c0_6) (h : laws_toIns.f k a0_0 a0_1 a0_2 a0_3 l0_4 l0_5 l0_6 = some (r1, r2, r3, r4, r5, r6, r7)) :
  Calls Try.prog 85 #[.agg #[.int .i64 a0_0, .int .i64 a0_1, .int .i64 a0_2, .int .i64 a0_3, .slice A0_4 l0_4.length c0_4, .slice A0_5 l0_5.length c0_5, .slice A0_6 l0_6.length c0_6]] w fun e w' => ∃ v4_ v5_ v6_ : Value, e = .returned (.agg #[.int .i64 r1, .int .i64 r2, .int .i64 r3, .int .i64 r4, v4_, v5_, v6_]) ∧ Kd.R (Kd.int .i64) 3 w' w.heap.size (fun k_ => some k_ ≠ (v6_ : Value).ownBlock) v4_ r5 ∧ Kd.R k178 178 w' w.heap.size (fun k_ => some k_ ≠ (v4_ : Value).ownBlock ∧ some k_ ≠ (v6_ : Value).ownBlock) v5_ r6 ∧ Kd.R (Kd.int .i64) 3 w' w.heap.size (fun k_ => some k_ ≠ (v4_ : Value).ownBlock) v6_ r7 ∧ Below w.heap.size w w' := by
 have hu112 := Try.underlying112
 have hu115 := Try.underlying115
 have HR0_4 := Aside0.mk hr0_4
 have HC0_4 := Aside0.mk hc0_4
 clear hr0_4 hc0_4
 have HR0_5 := Aside0.mk hr0_5
 have HC0_5 := Aside0.mk hc0_5
 clear hr0_5 hc0_5
 have HR0_6 := Aside0.mk hr0_6
 have HC0_6 := Aside0.mk hc0_6
 clear hr0_6 hc0_6
 have HB := Aside0.mk (Below.refl w.heap.size w)
 have H : ((laws_toIntS.f k l0_4).bind fun t859 => ((laws_toClauseS.f k l0_5).bind fun t862 => ((laws_toIntS.f k l0_6).bind fun t865 => (some (a0_0, a0_1, a0_2, a0_3, t859, t862, t865))))) = some (r1, r2, r3, r4, r5, r6, r7) := h
 clear h
 replace H := Option.bind_eq_some_iff.mp H
 obtain ⟨t859, A20, H⟩ := H
 replace H : ((laws_toClauseS.f k l0_5).bind fun t862 => ((laws_toIntS.f k l0_6).bind fun t865 => (some (a0_0, a0_1, a0_2, a0_3, t859, t862, t865)))) = some (r1, r2, r3, r4, r5, r6, r7) := H
 have A2 := Aside0.mk A20
 clear A20
 replace H := Option.bind_eq_some_iff.mp H
 obtain ⟨t862, A30, H⟩ := H
 replace H : ((laws_toIntS.f k l0_6).bind fun t865 => (some (a0_0, a0_1, a0_2, a0_3, t859, t862, t865))) = some (r1, r2, r3, r4, r5, r6, r7) := H
 have A3 := Aside0.mk A30
 clear A30
 replace H := Option.bind_eq_some_iff.mp H
 obtain ⟨t865, A40, H⟩ := H
 replace H : (some (a0_0, a0_1, a0_2, a0_3, t859, t862, t865)) = some (r1, r2, r3, r4, r5, r6, r7) := H
 have A4 := Aside0.mk A40
 clear A40
 simp only [Option.some.injEq, Prod.mk.injEq] at H
 obtain ⟨rfl, rfl, rfl, rfl, rfl, rfl, rfl⟩ := H
 go_enter Try.func85, Try.ntmps85
 go_wp2_with (first | ((with_reducible refine gate_dst (N := 1) rfl ?_); refine box_event ?hg (N := 1) ?hd (cs := #[.int .i64 a0_0, .int .i64 a0_1, .int .i64 a0_2, .int .i64 a0_3, .slice A0_4 l0_4.length c0_4, .slice A0_5 l0_5.length c0_5, .slice A0_6 l0_6.length c0_6]) (t := 112) ?hr ?_; (case hd => rfl); (case hg => rfl); (case hr => first | (go_simp; done) | (go_simp; rfl)); intro gb856 hg w5 hbox hb; have n0_ := Aside0.mk (below_step (by repeat (first | (with_reducible first | exact HB.out | apply below_alloc | apply pw_below_drewN | apply below_drew1) | exact HB.out)) hb); have n1_ := Aside0.mk (hbox); have n2_ := Aside0.mk ((by rw [hg]; exact (below_size (by repeat (first | (with_reducible first | exact HB.out | apply below_alloc | apply pw_below_drewN | apply below_drew1) | exact HB.out))) : w.heap.size ≤ gb856)); have n3_ := Aside0.mk ((by rw [hg]; exact (below_size (by repeat (first | (with_reducible first | exact HB.out | apply below_alloc | apply pw_below_drewN | apply below_drew1) | exact HB.out))) : w.heap.size ≤ gb856)); clear HB; have HB := n0_; have BK856 := n1_; have GW856 := n2_; have GE856 := n3_; clear n0_ n1_ n2_ n3_; clear hb hbox hg) | ((with_reducible refine gate_dst (N := 2) rfl ?_); refine box_event ?hg (N := 2) ?hd (cs := #[.int .i64 0, .int .i64 0, .int .i64 0, .int .i64 0, .slice none 0 0, .slice none 0 0, .slice none 0 0]) (t := 115) ?hr ?_; (case hd => rfl); (case hg => rfl); (case hr => first | (go_simp; done) | (go_simp; rfl)); intro gb857 hg w6 hbox hb; have n0_ := Aside0.mk (blk_below (g := gb856) (o := .cells #[.int .i64 a0_0, .int .i64 a0_1, .int .i64 a0_2, .int .i64 a0_3, .slice A0_4 l0_4.length c0_4, .slice A0_5 l0_5.length c0_5, .slice A0_6 l0_6.length c0_6] 112 (0, 0)) (by (with_reducible repeat (first | refine blk_drewN ?_ _ | refine blk_drew ?_ | refine blk_alloc ?_ _)); exact BK856.out) hb); have n1_ := Aside0.mk (below_step (by repeat (first | (with_reducible first | exact HB.out | apply below_alloc | apply pw_below_drewN | apply below_drew1 | refine below_set ?_ GE856.out) | exact HB.out)) hb); have n2_ := Aside0.mk (hbox); have n3_ := Aside0.mk ((by rw [hg]; exact (below_size (by repeat (first | (with_reducible first | exact HB.out | apply below_alloc | apply pw_below_drewN | apply below_drew1 | refine below_set ?_ GE856.out) | exact HB.out))) : w.heap.size ≤ gb857)); have n4_ := Aside0.mk ((by rw [hg]; exact (below_size (by repeat (first | (with_reducible first | exact HB.out | apply below_alloc | apply pw_below_drewN | apply below_drew1 | refine below_set ?_ GE856.out) | exact HB.out))) : w.heap.size ≤ gb857)); have n5_ := Aside0.mk ((by rw [hg]; exact Nat.ne_of_lt (blk_lt (g := gb856) (o := .cells #[.int .i64 a0_0, .int .i64 a0_1, .int .i64 a0_2, .int .i64 a0_3, .slice A0_4 l0_4.length c0_4, .slice A0_5 l0_5.length c0_5, .slice A0_6 l0_6.length c0_6] 112 (0, 0)) (by (with_reducible repeat (first | refine blk_drewN ?_ _ | refine blk_drew ?_ | refine blk_alloc ?_ _)); exact BK856.out)) : gb856 ≠ gb857)); have n6_ := Aside0.mk ((by rw [hg]; exact Nat.ne_of_gt (blk_lt (g := gb856) (o := .cells #[.int .i64 a0_0, .int .i64 a0_1, .int .i64 a0_2, .int .i64 a0_3, .slice A0_4 l0_4.length c0_4, .slice A0_5 l0_5.length c0_5, .slice A0_6 l0_6.length c0_6] 112 (0, 0)) (by (with_reducible repeat (first | refine blk_drewN ?_ _ | refine blk_drew ?_ | refine blk_alloc ?_ _)); exact BK856.out)) : gb857 ≠ gb856)); clear BK856; clear HB; have BK856 := n0_; have HB := n1_; have BK857 := n2_; have GW857 := n3_; have GE857 := n4_; have NB856_857 := n5_; have NB857_856 := n6_; clear n0_ n1_ n2_ n3_ n4_ n5_ n6_; clear hb hbox hg) | ((with_reducible refine gate_dst (N := 3) rfl ?_); refine box_event ?hg (N := 3) ?hd (cs := #[.int .i64 0, .int .i64 0, .int .i64 0, .int .i64 0, .slice none 0 0, .slice none 0 0, .slice none 0 0]) (t := 115) ?hr ?_; (case hd => rfl); (case hg => rfl); (case hr => first | (go_simp; done) | (go_simp; rfl)); intro gb858 hg w7 hbox hb; have n0_ := Aside0.mk (blk_below (g := gb856) (o := .cells #[.int .i64 a0_0, .int .i64 a0_1, .int .i64 a0_2, .int .i64 a0_3, .slice A0_4 l0_4.length c0_4, .slice A0_5 l0_5.length c0_5, .slice A0_6 l0_6.length c0_6] 112 (0, 0)) (by (with_reducible repeat (first | refine blk_drewN ?_ _ | refine blk_drew ?_ | refine blk_alloc ?_ _)); exact BK856.out) hb); have n1_ := Aside0.mk (blk_below (g := gb857) (o := .cells #[.int .i64 0, .int .i64 0, .int .i64 0, .int .i64 0, .slice none 0 0, .slice none 0 0, .slice none 0 0] 115 (0, 0)) (by (with_reducible repeat (first | refine blk_drewN ?_ _ | refine blk_drew ?_ | refine blk_alloc ?_ _)); exact BK857.out) hb); have n2_ := Aside0.mk (below_step (by repeat (first | (with_reducible first | exact HB.out | apply below_alloc | apply pw_below_drewN | apply below_drew1 | refine below_set ?_ GE856.out | refine below_set ?_ GE857.out) | exact HB.out)) hb); have n3_ := Aside0.mk (hbox); have n4_ := Aside0.mk ((by rw [hg]; exact (below_size (by repeat (first | (with_reducible first | exact HB.out | apply below_alloc | apply pw_below_drewN | apply below_drew1 | refine below_set ?_ GE856.out | refine below_set ?_ GE857.out) | exact HB.out))) : w.heap.size ≤ gb858)); have n5_ := Aside0.mk ((by rw [hg]; exact (below_size (by repeat (first | (with_reducible first | exact HB.out | apply below_alloc | apply pw_below_drewN | apply below_drew1 | refine below_set ?_ GE856.out | refine below_set ?_ GE857.out) | exact HB.out))) : w.heap.size ≤ gb858)); have n6_ := Aside0.mk ((by rw [hg]; exact Nat.ne_of_lt (blk_lt (g := gb856) (o := .cells #[.int .i64 a0_0, .int .i64 a0_1, .int .i64 a0_2, .int .i64 a0_3, .slice A0_4 l0_4.length c0_4, .slice A0_5 l0_5.length c0_5, .slice A0_6 l0_6.length c0_6] 112 (0, 0)) (by (with_reducible repeat (first | refine blk_drewN ?_ _ | refine blk_drew ?_ | refine blk_alloc ?_ _)); exact BK856.out)) : gb856 ≠ gb858)); have n7_ := Aside0.mk ((by rw [hg]; exact Nat.ne_of_gt (blk_lt (g := gb856) (o := .cells #[.int .i64 a0_0, .int .i64 a0_1, .int .i64 a0_2, .int .i64 a0_3, .slice A0_4 l0_4.length c0_4, .slice A0_5 l0_5.length c0_5, .slice A0_6 l0_6.length c0_6] 112 (0, 0)) (by (with_reducible repeat (first | refine blk_drewN ?_ _ | refine blk_drew ?_ | refine blk_alloc ?_ _)); exact BK856.out)) : gb858 ≠ gb856)); have n8_ := Aside0.mk ((by rw [hg]; exact Nat.ne_of_lt (blk_lt (g := gb857) (o := .cells #[.int .i64 0, .int .i64 0, .int .i64 0, .int .i64 0, .slice none 0 0, .slice none 0 0, .slice none 0 0] 115 (0, 0)) (by (with_reducible repeat (first | refine blk_drewN ?_ _ | refine blk_drew ?_ | refine blk_alloc ?_ _)); exact BK857.out)) : gb857 ≠ gb858)); have n9_ := Aside0.mk ((by rw [hg]; exact Nat.ne_of_gt (blk_lt (g := gb857) (o := .cells #[.int .i64 0, .int .i64 0, .int .i64 0, .int .i64 0, .slice none 0 0, .slice none 0 0, .slice none 0 0] 115 (0, 0)) (by (with_reducible repeat (first | refine blk_drewN ?_ _ | refine blk_drew ?_ | refine blk_alloc ?_ _)); exact BK857.out)) : gb858 ≠ gb857)); clear BK856; clear BK857; clear HB; have BK856 := n0_; have BK857 := n1_; have HB := n2_; have BK858 := n3_; have GW858 := n4_; have GE858 := n5_; have NB856_858 := n6_; have NB858_856 := n7_; have NB857_858 := n8_; have NB858_857 := n9_; clear n0_ n1_ n2_ n3_ n4_ n5_ n6_ n7_ n8_ n9_; clear hb hbox hg; have hnb8 := NB856_857.out; have hnc8 := NB857_856.out; have hnb9 := NB856_858.out; have hnc9 := NB858_856.out; have hcz10_0 : w7.cell? ⟨gb856, 0, none⟩ = some (.int .i64 a0_0) := (blk_cell BK856.out 0).trans rfl; have hcz10_1 : w7.cell? ⟨gb856, 1, none⟩ = some (.int .i64 a0_1) := (blk_cell BK856.out 1).trans rfl; have hcz10_2 : w7.cell? ⟨gb856, 2, none⟩ = some (.int .i64 a0_2) := (blk_cell BK856.out 2).trans rfl; have hcz10_3 : w7.cell? ⟨gb856, 3, none⟩ = some (.int .i64 a0_3) := (blk_cell BK856.out 3).trans rfl; have hcz10_4 : w7.cell? ⟨gb856, 4, none⟩ = some (.slice A0_4 l0_4.length c0_4) := (blk_cell BK856.out 4).trans rfl; have hcz10_5 : w7.cell? ⟨gb856, 5, none⟩ = some (.slice A0_5 l0_5.length c0_5) := (blk_cell BK856.out 5).trans rfl; have hcz10_6 : w7.cell? ⟨gb856, 6, none⟩ = some (.slice A0_6 l0_6.length c0_6) := (blk_cell BK856.out 6).trans rfl; have hfz10_0 := blk_frozen BK856.out 0; have hfz10_1 := blk_frozen BK856.out 1; have hfz10_2 := blk_frozen BK856.out 2; have hfz10_3 := blk_frozen BK856.out 3; have hfz10_4 := blk_frozen BK856.out 4; have hfz10_5 := blk_frozen BK856.out 5; have hfz10_6 := blk_frozen BK856.out 6; have hnb11 := NB858_857.out; have hnc11 := NB857_858.out; have hcz12_0 : w7.cell? ⟨gb858, 0, none⟩ = some (.int .i64 0) := (blk_cell BK858.out 0).trans rfl; have hcz12_1 : w7.cell? ⟨gb858, 1, none⟩ = some (.int .i64 0) := (blk_cell BK858.out 1).trans rfl; have hcz12_2 : w7.cell? ⟨gb858, 2, none⟩ = some (.int .i64 0) := (blk_cell BK858.out 2).trans rfl; have hcz12_3 : w7.cell? ⟨gb858, 3, none⟩ = some (.int .i64 0) := (blk_cell BK858.out 3).trans rfl; have hcz12_4 : w7.cell? ⟨gb858, 4, none⟩ = some (.slice none 0 0) := (blk_cell BK858.out 4).trans rfl; have hcz12_5 : w7.cell? ⟨gb858, 5, none⟩ = some (.slice none 0 0) := (blk_cell BK858.out 5).trans rfl; have hcz12_6 : w7.cell? ⟨gb858, 6, none⟩ = some (.slice none 0 0) := (blk_cell BK858.out 6).trans rfl; have hfz12_0 := blk_frozen BK858.out 0; have hfz12_1 := blk_frozen BK858.out 1; have hfz12_2 := blk_frozen BK858.out 2; have hfz12_3 := blk_frozen BK858.out 3; have hfz12_4 := blk_frozen BK858.out 4; have hfz12_5 := blk_frozen BK858.out 5; have hfz12_6 := blk_frozen BK858.out 6) | ((with_reducible refine gate_callee (f := 16) rfl ?_); refine goesL_ (some 18) rfl rfl Try.func16 (by kernel_rfl) rfl #[.slice A0_4 l0_4.length c0_4] rfl (by (try simp only [List.map_toArray, List.map_cons, List.map_nil]); first | done | rfl | (simp only [List.length_drop, List.length_take]; rfl)) ?_; (with_reducible refine (laws_toIntS.calls k _ _ l0_4 t859 _ ?side1 ?side2 A2.out).mono ?_); (case side1 => exact Kd.C_below HR0_4.out (by repeat (first | (with_reducible first | exact HB.out | apply below_alloc | apply pw_below_drewN | apply below_drew1 | refine below_set ?_ GE856.out | refine below_set ?_ GE857.out | refine below_set ?_ GE858.out) | exact HB.out))); (case side2 => exact HC0_4.out); rintro e w13 ⟨v860, rfl, ho0, hb⟩; refine ⟨_, rfl, ?_⟩; have n0_ := Aside0.mk (Kd.R_lower ho0 (below_size (by repeat (first | (with_reducible first | exact HB.out | apply below_alloc | apply pw_below_drewN | apply below_drew1 | refine below_set ?_ GE856.out | refine below_set ?_ GE857.out | refine below_set ?_ GE858.out) | exact HB.out)))); have n1_ := Aside0.mk (blk_below (g := gb856) (o := .cells #[.int .i64 a0_0, .int .i64 a0_1, .int .i64 a0_2, .int .i64 a0_3, .slice A0_4 l0_4.length c0_4, .slice A0_5 l0_5.length c0_5, .slice A0_6 l0_6.length c0_6] 112 (0, 0)) (by (with_reducible repeat (first | refine blk_drewN ?_ _ | refine blk_drew ?_ | refine blk_alloc ?_ _)); refine blk_far ?_ NB856_858.out _; (with_reducible repeat (first | refine blk_drewN ?_ _ | refine blk_drew ?_ | refine blk_alloc ?_ _)); refine blk_far ?_ NB856_858.out _; (with_reducible repeat (first | refine blk_drewN ?_ _ | refine blk_drew ?_ | refine blk_alloc ?_ _)); refine blk_far ?_ NB856_858.out _; (with_reducible repeat (first | refine blk_drewN ?_ _ | refine blk_drew ?_ | refine blk_alloc ?_ _)); refine blk_far ?_ NB856_858.out _; (with_reducible repeat (first | refine blk_drewN ?_ _ | refine blk_drew ?_ | refine blk_alloc ?_ _)); exact BK856.out) hb); have n2_ := Aside0.mk (blk_below (g := gb857) (o := .cells #[.int .i64 0, .int .i64 0, .int .i64 0, .int .i64 0, .slice none 0 0, .slice none 0 0, .slice none 0 0] 115 (0, 0)) (by (with_reducible repeat (first | refine blk_drewN ?_ _ | refine blk_drew ?_ | refine blk_alloc ?_ _)); refine blk_far ?_ NB857_858.out _; (with_reducible repeat (first | refine blk_drewN ?_ _ | refine blk_drew ?_ | refine blk_alloc ?_ _)); refine blk_far ?_ NB857_858.out _; (with_reducible repeat (first | refine blk_drewN ?_ _ | refine blk_drew ?_ | refine blk_alloc ?_ _)); refine blk_far ?_ NB857_858.out _; (with_reducible repeat (first | refine blk_drewN ?_ _ | refine blk_drew ?_ | refine blk_alloc ?_ _)); refine blk_far ?_ NB857_858.out _; (with_reducible repeat (first | refine blk_drewN ?_ _ | refine blk_drew ?_ | refine blk_alloc ?_ _)); exact BK857.out) hb); have n3_ := Aside0.mk (blk_below (g := gb858) (o := .cells #[.int .i64 a0_0, .int .i64 a0_1, .int .i64 a0_2, .int .i64 a0_3, .slice none 0 0, .slice none 0 0, .slice none 0 0] 115 (0, 0)) (by (with_reducible repeat (first | refine blk_drewN ?_ _ | refine blk_drew ?_ | refine blk_alloc ?_ _)); refine blk_put (cs := #[.int .i64 a0_0, .int .i64 a0_1, .int .i64 a0_2, .int .i64 0, .slice none 0 0, .slice none 0 0, .slice none 0 0]) ?_ 3 _ rfl; (with_reducible repeat (first | refine blk_drewN ?_ _ | refine blk_drew ?_ | refine blk_alloc ?_ _)); refine blk_put (cs := #[.int .i64 a0_0, .int .i64 a0_1, .int .i64 0, .int .i64 0, .slice none 0 0, .slice none 0 0, .slice none 0 0]) ?_ 2 _ rfl; (with_reducible repeat (first | refine blk_drewN ?_ _ | refine blk_drew ?_ | refine blk_alloc ?_ _)); refine blk_put (cs := #[.int .i64 a0_0, .int .i64 0, .int .i64 0, .int .i64 0, .slice none 0 0, .slice none 0 0, .slice none 0 0]) ?_ 1 _ rfl; (with_reducible repeat (first | refine blk_drewN ?_ _ | refine blk_drew ?_ | refine blk_alloc ?_ _)); refine blk_put (cs := #[.int .i64 0, .int .i64 0, .int .i64 0, .int .i64 0, .slice none 0 0, .slice none 0 0, .slice none 0 0]) ?_ 0 _ rfl; (with_reducible repeat (first | refine blk_drewN ?_ _ | refine blk_drew ?_ | refine blk_alloc ?_ _)); exact BK858.out) hb); have n4_ := Aside0.mk (below_step (by repeat (first | (with_reducible first | exact HB.out | apply below_alloc | apply pw_below_drewN | apply below_drew1 | refine below_set ?_ GE856.out | refine below_set ?_ GE857.out | refine below_set ?_ GE858.out) | exact HB.out)) hb); clear BK856; clear BK857; clear BK858; clear HB; have HO861 := n0_; have BK856 := n1_; have BK857 := n2_; have BK858 := n3_; have HB := n4_; clear n0_ n1_ n2_ n3_ n4_; (try clear hb); (try clear hb2); (try clear hk); (try clear hi); (try clear ho0); obtain ⟨Ao14, co14, eo14⟩ := Kd.R_slice HO861.out; subst eo14; have hcz15_0 : w13.cell? ⟨gb858, 0, none⟩ = some (.int .i64 a0_0) := (blk_cell BK858.out 0).trans rfl; have hcz15_1 : w13.cell? ⟨gb858, 1, none⟩ = some (.int .i64 a0_1) := (blk_cell BK858.out 1).trans rfl; have hcz15_2 : w13.cell? ⟨gb858, 2, none⟩ = some (.int .i64 a0_2) := (blk_cell BK858.out 2).trans rfl; have hcz15_3 : w13.cell? ⟨gb858, 3, none⟩ = some (.int .i64 a0_3) := (blk_cell BK858.out 3).trans rfl; have hcz15_4 : w13.cell? ⟨gb858, 4, none⟩ = some (.slice none 0 0) := (blk_cell BK858.out 4).trans rfl; have hcz15_5 : w13.cell? ⟨gb858, 5, none⟩ = some (.slice none 0 0) := (blk_cell BK858.out 5).trans rfl; have hcz15_6 : w13.cell? ⟨gb858, 6, none⟩ = some (.slice none 0 0) := (blk_cell BK858.out 6).trans rfl; have hfz15_0 := blk_frozen BK858.out 0; have hfz15_1 := blk_frozen BK858.out 1; have hfz15_2 := blk_frozen BK858.out 2; have hfz15_3 := blk_frozen BK858.out 3; have hfz15_4 := blk_frozen BK858.out 4; have hfz15_5 := blk_frozen BK858.out 5; have hfz15_6 := blk_frozen BK858.out 6; have hcz16_0 : w13.cell? ⟨gb856, 0, none⟩ = some (.int .i64 a0_0) := (blk_cell BK856.out 0).trans rfl; have hcz16_1 : w13.cell? ⟨gb856, 1, none⟩ = some (.int .i64 a0_1) := (blk_cell BK856.out 1).trans rfl; have hcz16_2 : w13.cell? ⟨gb856, 2, none⟩ = some (.int .i64 a0_2) := (blk_cell BK856.out 2).trans rfl; have hcz16_3 : w13.cell? ⟨gb856, 3, none⟩ = some (.int .i64 a0_3) := (blk_cell BK856.out 3).trans rfl; have hcz16_4 : w13.cell? ⟨gb856, 4, none⟩ = some (.slice A0_4 l0_4.length c0_4) := (blk_cell BK856.out 4).trans rfl; have hcz16_5 : w13.cell? ⟨gb856, 5, none⟩ = some (.slice A0_5 l0_5.length c0_5) := (blk_cell BK856.out 5).trans rfl; have hcz16_6 : w13.cell? ⟨gb856, 6, none⟩ = some (.slice A0_6 l0_6.length c0_6) := (blk_cell BK856.out 6).trans rfl; have hfz16_0 := blk_frozen BK856.out 0; have hfz16_1 := blk_frozen BK856.out 1; have hfz16_2 := blk_frozen BK856.out 2; have hfz16_3 := blk_frozen BK856.out 3; have hfz16_4 := blk_frozen BK856.out 4; have hfz16_5 := blk_frozen BK856.out 5; have hfz16_6 := blk_frozen BK856.out 6) | ((with_reducible refine gate_callee (f := 131) rfl ?_); refine goesL_ (some 22) rfl rfl Try.func131 (by kernel_rfl) rfl #[.slice A0_5 l0_5.length c0_5] rfl (by (try simp only [List.map_toArray, List.map_cons, List.map_nil]); first | done | rfl | (simp only [List.length_drop, List.length_take]; rfl)) ?_; (with_reducible refine (laws_toClauseS.calls k _ _ l0_5 t862 _ ?side1 ?side2 A3.out).mono ?_); (case side1 => exact Kd.C_below HR0_5.out (by repeat (first | (with_reducible first | exact HB.out | apply below_alloc | apply pw_below_drewN | apply below_drew1 | refine below_set ?_ GE856.out | refine below_set ?_ GE857.out | refine below_set ?_ GE858.out) | exact HB.out))); (case side2 => exact HC0_5.out); rintro e w17 ⟨v863, rfl, ho0, hb⟩; refine ⟨_, rfl, ?_⟩; have n0_ := Aside0.mk (Kd.R_below (by (with_reducible repeat (first | apply Kd.R_alloc | apply Kd.R_drewN | apply Kd.R_drew)); exact (Kd.R_mono (Kd.R_far (p := ⟨gb858, 4, none⟩) (Kd.R_types HO861.out BK858.out (by decide)) (fun _ hk => hk.2) (.slice Ao14 t859.length co14)) (fun _ h_ => h_.1))) hb); have n1_ := Aside0.mk (Kd.R_lower (Kd.R_new' ho0 (Kd.R_lt (by (with_reducible repeat (first | apply Kd.R_alloc | apply Kd.R_drewN | apply Kd.R_drew)); exact (Kd.R_mono (Kd.R_far (p := ⟨gb858, 4, none⟩) (Kd.R_types HO861.out BK858.out (by decide)) (fun _ hk => hk.2) (.slice Ao14 t859.length co14)) (fun _ h_ => h_.1))))) (below_size (by repeat (first | (with_reducible first | exact HB.out | apply below_alloc | apply pw_below_drewN | apply below_drew1 | refine below_set ?_ GE856.out | refine below_set ?_ GE857.out | refine below_set ?_ GE858.out) | exact HB.out)))); have n2_ := Aside0.mk (blk_below (g := gb856) (o := .cells #[.int .i64 a0_0, .int .i64 a0_1, .int .i64 a0_2, .int .i64 a0_3, .slice A0_4 l0_4.length c0_4, .slice A0_5 l0_5.length c0_5, .slice A0_6 l0_6.length c0_6] 112 (0, 0)) (by (with_reducible repeat (first | refine blk_drewN ?_ _ | refine blk_drew ?_ | refine blk_alloc ?_ _)); refine blk_far ?_ NB856_858.out _; (with_reducible repeat (first | refine blk_drewN ?_ _ | refine blk_drew ?_ | refine blk_alloc ?_ _)); exact BK856.out) hb); have n3_ := Aside0.mk (blk_below (g := gb857) (o := .cells #[.int .i64 0, .int .i64 0, .int .i64 0, .int .i64 0, .slice none 0 0, .slice none 0 0, .slice none 0 0] 115 (0, 0)) (by (with_reducible repeat (first | refine blk_drewN ?_ _ | refine blk_drew ?_ | refine blk_alloc ?_ _)); refine blk_far ?_ NB857_858.out _; (with_reducible repeat (first | refine blk_drewN ?_ _ | refine blk_drew ?_ | refine blk_alloc ?_ _)); exact BK857.out) hb); have n4_ := Aside0.mk (blk_below (g := gb858) (o := .cells #[.int .i64 a0_0, .int .i64 a0_1, .int .i64 a0_2, .int .i64 a0_3, .slice Ao14 t859.length co14, .slice none 0 0, .slice none 0 0] 115 (0, 0)) (by (with_reducible repeat (first | refine blk_drewN ?_ _ | refine blk_drew ?_ | refine blk_alloc ?_ _)); refine blk_put (cs := #[.int .i64 a0_0, .int .i64 a0_1, .int .i64 a0_2, .int .i64 a0_3, .slice none 0 0, .slice none 0 0, .slice none 0 0]) ?_ 4 _ rfl; (with_reducible repeat (first | refine blk_drewN ?_ _ | refine blk_drew ?_ | refine blk_alloc ?_ _)); exact BK858.out) hb); have n5_ := Aside0.mk (below_step (by repeat (first | (with_reducible first | exact HB.out | apply below_alloc | apply pw_below_drewN | apply below_drew1 | refine below_set ?_ GE856.out | refine below_set ?_ GE857.out | refine below_set ?_ GE858.out) | exact HB.out)) hb); clear HO861; clear BK856; clear BK857; clear BK858; clear HB; have HO861 := n0_; have HO864 := n1_; have BK856 := n2_; have BK857 := n3_; have BK858 := n4_; have HB := n5_; clear n0_ n1_ n2_ n3_ n4_ n5_; (try clear hb); (try clear hb2); (try clear hk); (try clear hi); (try clear ho0); obtain ⟨Ao18, co18, eo18⟩ := Kd.R_slice HO864.out; subst eo18; have hcz19_0 : w17.cell? ⟨gb858, 0, none⟩ = some (.int .i64 a0_0) := (blk_cell BK858.out 0).trans rfl; have hcz19_1 : w17.cell? ⟨gb858, 1, none⟩ = some (.int .i64 a0_1) := (blk_cell BK858.out 1).trans rfl; have hcz19_2 : w17.cell? ⟨gb858, 2, none⟩ = some (.int .i64 a0_2) := (blk_cell BK858.out 2).trans rfl; have hcz19_3 : w17.cell? ⟨gb858, 3, none⟩ = some (.int .i64 a0_3) := (blk_cell BK858.out 3).trans rfl; have hcz19_4 : w17.cell? ⟨gb858, 4, none⟩ = some (.slice Ao14 t859.length co14) := (blk_cell BK858.out 4).trans rfl; have hcz19_5 : w17.cell? ⟨gb858, 5, none⟩ = some (.slice none 0 0) := (blk_cell BK858.out 5).trans rfl; have hcz19_6 : w17.cell? ⟨gb858, 6, none⟩ = some (.slice none 0 0) := (blk_cell BK858.out 6).trans rfl; have hfz19_0 := blk_frozen BK858.out 0; have hfz19_1 := blk_frozen BK858.out 1; have hfz19_2 := blk_frozen BK858.out 2; have hfz19_3 := blk_frozen BK858.out 3; have hfz19_4 := blk_frozen BK858.out 4; have hfz19_5 := blk_frozen BK858.out 5; have hfz19_6 := blk_frozen BK858.out 6; have hcz20_0 : w17.cell? ⟨gb856, 0, none⟩ = some (.int .i64 a0_0) := (blk_cell BK856.out 0).trans rfl; have hcz20_1 : w17.cell? ⟨gb856, 1, none⟩ = some (.int .i64 a0_1) := (blk_cell BK856.out 1).trans rfl; have hcz20_2 : w17.cell? ⟨gb856, 2, none⟩ = some (.int .i64 a0_2) := (blk_cell BK856.out 2).trans rfl; have hcz20_3 : w17.cell? ⟨gb856, 3, none⟩ = some (.int .i64 a0_3) := (blk_cell BK856.out 3).trans rfl; have hcz20_4 : w17.cell? ⟨gb856, 4, none⟩ = some (.slice A0_4 l0_4.length c0_4) := (blk_cell BK856.out 4).trans rfl; have hcz20_5 : w17.cell? ⟨gb856, 5, none⟩ = some (.slice A0_5 l0_5.length c0_5) := (blk_cell BK856.out 5).trans rfl; have hcz20_6 : w17.cell? ⟨gb856, 6, none⟩ = some (.slice A0_6 l0_6.length c0_6) := (blk_cell BK856.out 6).trans rfl; have hfz20_0 := blk_frozen BK856.out 0; have hfz20_1 := blk_frozen BK856.out 1; have hfz20_2 := blk_frozen BK856.out 2; have hfz20_3 := blk_frozen BK856.out 3; have hfz20_4 := blk_frozen BK856.out 4; have hfz20_5 := blk_frozen BK856.out 5; have hfz20_6 := blk_frozen BK856.out 6) | ((with_reducible refine gate_callee (f := 16) rfl ?_); refine goesL_ (some 26) rfl rfl Try.func16 (by kernel_rfl) rfl #[.slice A0_6 l0_6.length c0_6] rfl (by (try simp only [List.map_toArray, List.map_cons, List.map_nil]); first | done | rfl | (simp only [List.length_drop, List.length_take]; rfl)) ?_; (with_reducible refine (laws_toIntS.calls k _ _ l0_6 t865 _ ?side1 ?side2 A4.out).mono ?_); (case side1 => exact Kd.C_below HR0_6.out (by repeat (first | (with_reducible first | exact HB.out | apply below_alloc | apply pw_below_drewN | apply below_drew1 | refine below_set ?_ GE856.out | refine below_set ?_ GE857.out | refine below_set ?_ GE858.out) | exact HB.out))); (case side2 => exact HC0_6.out); rintro e w21 ⟨v866, rfl, ho0, hb⟩; refine ⟨_, rfl, ?_⟩; have n0_ := Aside0.mk (Kd.R_elder' (by (with_reducible repeat (first | apply Kd.R_alloc | apply Kd.R_drewN | apply Kd.R_drew)); exact (Kd.R_mono (Kd.R_far (p := ⟨gb858, 5, none⟩) (Kd.R_types HO861.out BK858.out (by decide)) (fun _ hk => hk.2) (.slice Ao18 t862.length co18)) (fun _ h_ => h_.1))) (Kd.R_base ho0) hb); have n1_ := Aside0.mk (Kd.R_elder' (by (with_reducible repeat (first | apply Kd.R_alloc | apply Kd.R_drewN | apply Kd.R_drew)); exact (Kd.R_mono (Kd.R_far (p := ⟨gb858, 5, none⟩) (Kd.R_types HO864.out BK858.out (by decide)) (fun _ hk => hk.2) (.slice Ao18 t862.length co18)) (fun _ h_ => h_.1))) (Kd.R_base ho0) hb); have n2_ := Aside0.mk (Kd.R_lower (Kd.R_new' ho0 (Kd.R_lt (by (with_reducible repeat (first | apply Kd.R_alloc | apply Kd.R_drewN | apply Kd.R_drew)); exact (Kd.R_mono (Kd.R_far (p := ⟨gb858, 5, none⟩) (Kd.R_types HO861.out BK858.out (by decide)) (fun _ hk => hk.2) (.slice Ao18 t862.length co18)) (fun _ h_ => h_.1))))) (below_size (by repeat (first | (with_reducible first | exact HB.out | apply below_alloc | apply pw_below_drewN | apply below_drew1 | refine below_set ?_ GE856.out | refine below_set ?_ GE857.out | refine below_set ?_ GE858.out) | exact HB.out)))); have n3_ := Aside0.mk (blk_below (g := gb856) (o := .cells #[.int .i64 a0_0, .int .i64 a0_1, .int .i64 a0_2, .int .i64 a0_3, .slice A0_4 l0_4.length c0_4, .slice A0_5 l0_5.length c0_5, .slice A0_6 l0_6.length c0_6] 112 (0, 0)) (by (with_reducible repeat (first | refine blk_drewN ?_ _ | refine blk_drew ?_ | refine blk_alloc ?_ _)); refine blk_far ?_ NB856_858.out _; (with_reducible repeat (first | refine blk_drewN ?_ _ | refine blk_drew ?_ | refine blk_alloc ?_ _)); exact BK856.out) hb); have n4_ := Aside0.mk (blk_below (g := gb857) (o := .cells #[.int .i64 0, .int .i64 0, .int .i64 0, .int .i64 0, .slice none 0 0, .slice none 0 0, .slice none 0 0] 115 (0, 0)) (by (with_reducible repeat (first | refine blk_drewN ?_ _ | refine blk_drew ?_ | refine blk_alloc ?_ _)); refine blk_far ?_ NB857_858.out _; (with_reducible repeat (first | refine blk_drewN ?_ _ | refine blk_drew ?_ | refine blk_alloc ?_ _)); exact BK857.out) hb); have n5_ := Aside0.mk (blk_below (g := gb858) (o := .cells #[.int .i64 a0_0, .int .i64 a0_1, .int .i64 a0_2, .int .i64 a0_3, .slice Ao14 t859.length co14, .slice Ao18 t862.length co18, .slice none 0 0] 115 (0, 0)) (by (with_reducible repeat (first | refine blk_drewN ?_ _ | refine blk_drew ?_ | refine blk_alloc ?_ _)); refine blk_put (cs := #[.int .i64 a0_0, .int .i64 a0_1, .int .i64 a0_2, .int .i64 a0_3, .slice Ao14 t859.length co14, .slice none 0 0, .slice none 0 0]) ?_ 5 _ rfl; (with_reducible repeat (first | refine blk_drewN ?_ _ | refine blk_drew ?_ | refine blk_alloc ?_ _)); exact BK858.out) hb); have n6_ := Aside0.mk (below_step (by repeat (first | (with_reducible first | exact HB.out | apply below_alloc | apply pw_below_drewN | apply below_drew1 | refine below_set ?_ GE856.out | refine below_set ?_ GE857.out | refine below_set ?_ GE858.out) | exact HB.out)) hb); clear HO861; clear HO864; clear BK856; clear BK857; clear BK858; clear HB; have HO861 := n0_; have HO864 := n1_; have HO867 := n2_; have BK856 := n3_; have BK857 := n4_; have BK858 := n5_; have HB := n6_; clear n0_ n1_ n2_ n3_ n4_ n5_ n6_; (try clear hb); (try clear hb2); (try clear hk); (try clear hi); (try clear ho0); obtain ⟨Ao22, co22, eo22⟩ := Kd.R_slice HO867.out; subst eo22; have hcz23_0 : w21.cell? ⟨gb858, 0, none⟩ = some (.int .i64 a0_0) := (blk_cell BK858.out 0).trans rfl; have hcz23_1 : w21.cell? ⟨gb858, 1, none⟩ = some (.int .i64 a0_1) := (blk_cell BK858.out 1).trans rfl; have hcz23_2 : w21.cell? ⟨gb858, 2, none⟩ = some (.int .i64 a0_2) := (blk_cell BK858.out 2).trans rfl; have hcz23_3 : w21.cell? ⟨gb858, 3, none⟩ = some (.int .i64 a0_3) := (blk_cell BK858.out 3).trans rfl; have hcz23_4 : w21.cell? ⟨gb858, 4, none⟩ = some (.slice Ao14 t859.length co14) := (blk_cell BK858.out 4).trans rfl; have hcz23_5 : w21.cell? ⟨gb858, 5, none⟩ = some (.slice Ao18 t862.length co18) := (blk_cell BK858.out 5).trans rfl; have hcz23_6 : w21.cell? ⟨gb858, 6, none⟩ = some (.slice none 0 0) := (blk_cell BK858.out 6).trans rfl; have hfz23_0 := blk_frozen BK858.out 0; have hfz23_1 := blk_frozen BK858.out 1; have hfz23_2 := blk_frozen BK858.out 2; have hfz23_3 := blk_frozen BK858.out 3; have hfz23_4 := blk_frozen BK858.out 4; have hfz23_5 := blk_frozen BK858.out 5; have hfz23_6 := blk_frozen BK858.out 6; have hcz24_0 : w21.cell? ⟨gb857, 0, none⟩ = some (.int .i64 0) := (blk_cell BK857.out 0).trans rfl; have hcz24_1 : w21.cell? ⟨gb857, 1, none⟩ = some (.int .i64 0) := (blk_cell BK857.out 1).trans rfl; have hcz24_2 : w21.cell? ⟨gb857, 2, none⟩ = some (.int .i64 0) := (blk_cell BK857.out 2).trans rfl; have hcz24_3 : w21.cell? ⟨gb857, 3, none⟩ = some (.int .i64 0) := (blk_cell BK857.out 3).trans rfl; have hcz24_4 : w21.cell? ⟨gb857, 4, none⟩ = some (.slice none 0 0) := (blk_cell BK857.out 4).trans rfl; have hcz24_5 : w21.cell? ⟨gb857, 5, none⟩ = some (.slice none 0 0) := (blk_cell BK857.out 5).trans rfl; have hcz24_6 : w21.cell? ⟨gb857, 6, none⟩ = some (.slice none 0 0) := (blk_cell BK857.out 6).trans rfl; have hfz24_0 := blk_frozen BK857.out 0; have hfz24_1 := blk_frozen BK857.out 1; have hfz24_2 := blk_frozen BK857.out 2; have hfz24_3 := blk_frozen BK857.out 3; have hfz24_4 := blk_frozen BK857.out 4; have hfz24_5 := blk_frozen BK857.out 5; have hfz24_6 := blk_frozen BK857.out 6))
 refine bodyPost_ret (results_cell_row rfl _ _ gb857 115 #[.int .i64 a0_0, .int .i64 a0_1, .int .i64 a0_2, .int .i64 a0_3, .slice Ao14 t859.length co14, .slice Ao18 t862.length co18, .slice Ao22 t865.length co22] (0, 0) _ rfl (by (with_reducible repeat (first | refine blk_drewN ?_ _ | refine blk_drew ?_ | refine blk_alloc ?_ _)); refine blk_put (cs := #[.int .i64 a0_0, .int .i64 a0_1, .int .i64 a0_2, .int .i64 a0_3, .slice Ao14 t859.length co14, .slice Ao18 t862.length co18, .slice none 0 0]) ?_ 6 _ rfl; (with_reducible repeat (first | refine blk_drewN ?_ _ | refine blk_drew ?_ | refine blk_alloc ?_ _)); refine blk_put (cs := #[.int .i64 a0_0, .int .i64 a0_1, .int .i64 a0_2, .int .i64 a0_3, .slice Ao14 t859.length co14, .slice none 0 0, .slice none 0 0]) ?_ 5 _ rfl; (with_reducible repeat (first | refine blk_drewN ?_ _ | refine blk_drew ?_ | refine blk_alloc ?_ _)); refine blk_put (cs := #[.int .i64 a0_0, .int .i64 a0_1, .int .i64 a0_2, .int .i64 a0_3, .slice none 0 0, .slice none 0 0, .slice none 0 0]) ?_ 4 _ rfl; (with_reducible repeat (first | refine blk_drewN ?_ _ | refine blk_drew ?_ | refine blk_alloc ?_ _)); refine blk_put (cs := #[.int .i64 a0_0, .int .i64 a0_1, .int .i64 a0_2, .int .i64 0, .slice none 0 0, .slice none 0 0, .slice none 0 0]) ?_ 3 _ rfl; (with_reducible repeat (first | refine blk_drewN ?_ _ | refine blk_drew ?_ | refine blk_alloc ?_ _)); refine blk_put (cs := #[.int .i64 a0_0, .int .i64 a0_1, .int .i64 0, .int .i64 0, .slice none 0 0, .slice none 0 0, .slice none 0 0]) ?_ 2 _ rfl; (with_reducible repeat (first | refine blk_drewN ?_ _ | refine blk_drew ?_ | refine blk_alloc ?_ _)); refine blk_put (cs := #[.int .i64 a0_0, .int .i64 0, .int .i64 0, .int .i64 0, .slice none 0 0, .slice none 0 0, .slice none 0 0]) ?_ 1 _ rfl; (with_reducible repeat (first | refine blk_drewN ?_ _ | refine blk_drew ?_ | refine blk_alloc ?_ _)); refine blk_put (cs := #[.int .i64 0, .int .i64 0, .int .i64 0, .int .i64 0, .slice none 0 0, .slice none 0 0, .slice none 0 0]) ?_ 0 _ rfl; (with_reducible repeat (first | refine blk_drewN ?_ _ | refine blk_drew ?_ | refine blk_alloc ?_ _)); refine blk_far ?_ NB857_858.out _; (with_reducible repeat (first | refine blk_drewN ?_ _ | refine blk_drew ?_ | refine blk_alloc ?_ _)); exact BK857.out) Try.underlying115 rfl (by kernel_rfl)) rfl ?_
 exact ⟨_, _, _, by first | rfl | (simp [errW_none, errW_some] <;> rfl) | (simp [*, errW_none, errW_some] <;> rfl), by (with_reducible repeat (first | apply Kd.R_alloc | apply Kd.R_drewN | apply Kd.R_drew)); exact Kd.R_mono (Kd.R_far (p := ⟨gb857, 6, none⟩) (Kd.R_far (p := ⟨gb857, 5, none⟩) (Kd.R_far (p := ⟨gb857, 4, none⟩) (Kd.R_far (p := ⟨gb857, 3, none⟩) (Kd.R_far (p := ⟨gb857, 2, none⟩) (Kd.R_far (p := ⟨gb857, 1, none⟩) (Kd.R_far (p := ⟨gb857, 0, none⟩) (Kd.R_far (p := ⟨gb858, 6, none⟩) (Kd.R_types (Kd.R_types HO861.out BK858.out (by decide)) BK857.out (by decide)) (fun _ hk => hk.1.2) (.slice Ao22 t865.length co22)) (fun _ hk => hk.2) (.int .i64 a0_0)) (fun _ hk => hk.2) (.int .i64 a0_1)) (fun _ hk => hk.2) (.int .i64 a0_2)) (fun _ hk => hk.2) (.int .i64 a0_3)) (fun _ hk => hk.2) (.slice Ao14 t859.length co14)) (fun _ hk => hk.2) (.slice Ao18 t862.length co18)) (fun _ hk => hk.2) (.slice Ao22 t865.length co22)) (fun _ hk => hk.1.1.2), by (with_reducible repeat (first | apply Kd.R_alloc | apply Kd.R_drewN | apply Kd.R_drew)); exact Kd.R_mono (Kd.R_far (p := ⟨gb857, 6, none⟩) (Kd.R_far (p := ⟨gb857, 5, none⟩) (Kd.R_far (p := ⟨gb857, 4, none⟩) (Kd.R_far (p := ⟨gb857, 3, none⟩) (Kd.R_far (p := ⟨gb857, 2, none⟩) (Kd.R_far (p := ⟨gb857, 1, none⟩) (Kd.R_far (p := ⟨gb857, 0, none⟩) (Kd.R_far (p := ⟨gb858, 6, none⟩) (Kd.R_types (Kd.R_types HO864.out BK858.out (by decide)) BK857.out (by decide)) (fun _ hk => hk.1.2) (.slice Ao22 t865.length co22)) (fun _ hk => hk.2) (.int .i64 a0_0)) (fun _ hk => hk.2) (.int .i64 a0_1)) (fun _ hk => hk.2) (.int .i64 a0_2)) (fun _ hk => hk.2) (.int .i64 a0_3)) (fun _ hk => hk.2) (.slice Ao14 t859.length co14)) (fun _ hk => hk.2) (.slice Ao18 t862.length co18)) (fun _ hk => hk.2) (.slice Ao22 t865.length co22)) (fun _ hk => ⟨hk.1.1.1.2, hk.1.1.2⟩), by (with_reducible repeat (first | apply Kd.R_alloc | apply Kd.R_drewN | apply Kd.R_drew)); exact Kd.R_mono (Kd.R_far (p := ⟨gb857, 6, none⟩) (Kd.R_far (p := ⟨gb857, 5, none⟩) (Kd.R_far (p := ⟨gb857, 4, none⟩) (Kd.R_far (p := ⟨gb857, 3, none⟩) (Kd.R_far (p := ⟨gb857, 2, none⟩) (Kd.R_far (p := ⟨gb857, 1, none⟩) (Kd.R_far (p := ⟨gb857, 0, none⟩) (Kd.R_far (p := ⟨gb858, 6, none⟩) (Kd.R_types (Kd.R_types HO867.out BK858.out (by decide)) BK857.out (by decide)) (fun _ hk => hk.1.2) (.slice Ao22 t865.length co22)) (fun _ hk => hk.2) (.int .i64 a0_0)) (fun _ hk => hk.2) (.int .i64 a0_1)) (fun _ hk => hk.2) (.int .i64 a0_2)) (fun _ hk => hk.2) (.int .i64 a0_3)) (fun _ hk => hk.2) (.slice Ao14 t859.length co14)) (fun _ hk => hk.2) (.slice Ao18 t862.length co18)) (fun _ hk => hk.2) (.slice Ao22 t865.length co22)) (fun _ hk => hk.1.1.2), by repeat (first | (with_reducible first | exact HB.out | apply below_alloc | apply pw_below_drewN | apply below_drew1 | refine below_set ?_ GE856.out | refine below_set ?_ GE857.out | refine below_set ?_ GE858.out) | exact HB.out)⟩

def laws_toInsS.l0 : Nat → List (S112) → List (S115) → Int → Option ((List (S115)))
 | 0, _, _, _ => none
 | k + 1, x0, x3, x4 => if x4 < (x0.length : Int) then (if 0 ≤ x4 then ((laws_toIns.f k ((rd_T112 x0 x4).f0) ((rd_T112 x0 x4).f1) ((rd_T112 x0 x4).f2) ((rd_T112 x0 x4).f3) ((rd_T112 x0 x4).f4) ((rd_T112 x0 x4).f5) ((rd_T112 x0 x4).f6)).bind fun bt872 => (if x4 < (x3.length : Int) then (laws_toInsS.l0 k x0 (x3.set (x4 : Int).toNat (⟨bt872.1, bt872.2.1, bt872.2.2.1, bt872.2.2.2.1, bt872.2.2.2.2.1, bt872.2.2.2.2.2.1, bt872.2.2.2.2.2.2⟩ : S115)) (wrap64 (x4 + 1))) else (none))) else (none)) else (some x3)
def laws_toInsS.f (k : Nat) (l0 : List (S112)) : Option ((List (S115))) := if 0 ≤ (l0.length : Int) then (if ((l0.length : Int) : Int).toNat ≤ 2706490160679 then (laws_toInsS.l0 k l0 (List.replicate ((l0.length : Int) : Int).toNat z115) 0) else (none)) else (none)
theorem laws_toInsS.mono_l : ∀ k, (∀ y0 y1 y2, LeO (laws_toInsS.l0 k y0 y1 y2) (laws_toInsS.l0 (k + 1) y0 y1 y2))
 | 0 => fun _ _ _ r h => by simp [laws_toInsS.l0] at h
 | k + 1 => by
  have ih0 := laws_toInsS.mono_l k
  ·intro y0 y1 y2
   unfold laws_toInsS.l0
   repeat' first
   | (with_reducible exact ih0 _ _ _)
   | (with_reducible exact laws_toIns.mono _ _ _ _ _ _ _ _)
   | (with_reducible exact LeO.refl _)
   | (with_reducible exact LeO.none _)
   | (with_reducible refine LeO.ite ?_ ?_)
   | (with_reducible refine LeO.bind ?_ (fun _ => ?_))
   | exact ih0 _ _ _
   | exact laws_toIns.mono _ _ _ _ _ _ _ _
   | exact LeO.none _
   | refine LeO.ite ?_ ?_
   | refine LeO.bind ?_ (fun _ => ?_)
theorem laws_toInsS.mono : ∀ a0 k, LeO (laws_toInsS.f k a0) (laws_toInsS.f (k + 1) a0) := by
 intro a0 k
 have ih0 := laws_toInsS.mono_l k
 unfold laws_toInsS.f
 repeat' first
   | (with_reducible exact ih0 _ _ _)
   | (with_reducible exact laws_toIns.mono _ _ _ _ _ _ _ _)
   | (with_reducible exact LeO.refl _)
   | (with_reducible exact LeO.none _)
   | (with_reducible refine LeO.ite ?_ ?_)
   | (with_reducible refine LeO.bind ?_ (fun _ => ?_))
   | exact ih0 _ _ _
   | exact laws_toIns.mono _ _ _ _ _ _ _ _
   | exact LeO.none _
   | refine LeO.ite ?_ ?_
   | refine LeO.bind ?_ (fun _ => ?_)
set_option maxHeartbeats 8000000 in
set_option maxRecDepth 100000 in
theorem laws_toInsS.calls (k : Nat) (A0 : Option Addr) (c0 : Nat) (l0 : List (S112)) (r : List (S115)) (w : World) (hr0 : Kd.C k112 w A0 l0.length l0) (hc0 : l0.length ≤ c0) (h : laws_toInsS.f k l0 = some r) :
  Calls Try.prog 46 #[.slice A0 l0.length c0] w fun e w' => ∃ v0_ : Value, e = .returned (v0_) ∧ Kd.R k115 115 w' w.heap.size (fun _ => True) v0_ r ∧ Below w.heap.size w w' := by
 have hu112 := Try.underlying112
 have hu115 := Try.underlying115
 have HR0 := Aside0.mk hr0
 have HC0 := Aside0.mk hc0
 clear hr0 hc0
 have HB := Aside0.mk (Below.refl w.heap.size w)
 have H : (if 0 ≤ (l0.length : Int) then (if ((l0.length : Int) : Int).toNat ≤ 2706490160679 then (laws_toInsS.l0 k l0 (List.replicate ((l0.length : Int) : Int).toNat z115) 0) else (none)) else (none)) = some r := h
 clear h
 by_cases c2 : 0 ≤ (l0.length : Int)
 ·rw [if_pos c2] at H
  have c2b0 := eq_true c2
  have c2b1 : decide (0 ≤ (l0.length : Int)) = true := decide_eq_true c2
  clear c2
  by_cases c3 : ((l0.length : Int) : Int).toNat ≤ 2706490160679
  ·rw [if_pos c3] at H
   have c3b0 := eq_true c3
   have c3b1 : decide (((l0.length : Int) : Int).toNat ≤ 2706490160679) = true := decide_eq_true c3
   clear c3
   obtain ⟨y868, hy868⟩ : ∃ y_ : List (S115), y_ = (List.replicate ((l0.length : Int) : Int).toNat z115) := ⟨_, rfl⟩
   replace H : (laws_toInsS.l0 k l0 y868 0) = some r := by first | (rw [hy868]; with_reducible exact H) | (have H2_ := (Option.bind_some _ _).symm.trans H; rw [hy868]; with_reducible exact H2_) | (have H2_ := (Option.bind_some _ _).symm.trans H; with_reducible exact H2_) | with_reducible exact H | (rw [hy868]; exact H) | exact H
   have Ny868 := Aside0.mk hy868
   clear hy868
   have H' := Aside0.mk H
   clear H
   go_enter Try.func46, Try.ntmps46
   go_wp2_with (first | ((with_reducible refine gate_dst (N := 7) rfl ?_); refine Kd.R_make k115 _ 115 rfl (N := 7) rfl 68 _ _ rfl (l0.length : Int) rfl rfl Try.underlying68 (.agg #[(.int .i64 0), (.int .i64 0), (.int .i64 0), (.int .i64 0), (.slice none 0 0), (.slice none 0 0), (.slice none 0 0)]) 104 info115 rfl (by decide) (by omega) z115 (ok := fun _ => True) (okp := fun _ => True) (k115_mkM _ _ _ z115 (Kd.R_nil _ _ _ _ _) (Kd.R_nil _ _ _ _ _) (Kd.R_nil _ _ _ _ _)) (fun _ hk => hk) trivial (of_decide_eq_true (by first | (with_reducible assumption) | assumption)) (Nat.le_trans (Nat.mul_le_mul_right _ (of_decide_eq_true (by first | (with_reducible assumption) | assumption) : (l0.length : Int).toNat ≤ 2706490160679)) (by omega)) (Below.refl _ _) (Nat.le_refl _) ?_; intro v869 w4 ho5 hb hg_ hnew_; clear hg_ hnew_; (first | rw [← Ny868.out] at ho5 | (simp only [Int.reduceToNat] at ho5; rw [← Ny868.out] at ho5)); have n0_ := Aside0.mk (Kd.R_lower ho5 (below_size (by repeat (first | (with_reducible first | exact HB.out | apply below_alloc | apply pw_below_drewN | apply below_drew1) | exact HB.out)))); have n1_ := Aside0.mk (below_step (by repeat (first | (with_reducible first | exact HB.out | apply below_alloc | apply pw_below_drewN | apply below_drew1) | exact HB.out)) hb); clear HB; have HO870 := n0_; have HB := n1_; clear n0_ n1_; clear hb ho5))
   go_loopg [4] k (fun kq v4 w' => ∃ (x3_1 : List (S115)) (x4_1 : Int), v4 = .int .i64 x4_1 ∧ Aside0 (laws_toInsS.l0 kq l0 x3_1 x4_1 = some r) ∧ Aside0 (kq ≤ k) ∧ Aside0 (Kd.R k115 115 w' w.heap.size (fun _ => True) v869 x3_1) ∧ Aside0 (Below w.heap.size w w'))
   case atStart => exact ⟨(y868), (0), (by first | rfl | (simp; done) | (simp [*]; done)), H', ⟨Nat.le_refl _⟩, ⟨by (with_reducible repeat (first | apply Kd.R_alloc | apply Kd.R_drewN | apply Kd.R_drew)); exact HO870.out⟩, ⟨by repeat (first | (with_reducible first | exact HB.out | apply below_alloc | apply pw_below_drewN | apply below_drew1) | exact HB.out)⟩⟩
   case round =>
    clear H'
    try clear c2
    try clear c2b0
    try clear c2b1
    try clear p2
    try clear c3
    try clear c3b0
    try clear c3b1
    try clear c4
    obtain ⟨x3_1, x4_1, rfl, HA, HK1, HO_3, HB⟩ := hrel
    cases gk with
    | zero => exact absurd HA.out (by simp [laws_toInsS.l0])
    | succ k1 =>
     have H := HA.out
     clear HA
     simp only [laws_toInsS.l0] at H
     by_cases c6 : x4_1 < (l0.length : Int)
     ·rw [if_pos c6] at H
      have c6b0 : decide (x4_1 < (l0.length : Int)) = true := decide_eq_true c6
      clear c6
      by_cases c7 : 0 ≤ x4_1
      ·rw [if_pos c7] at H
       have c7b0 : decide (0 ≤ x4_1) = true := decide_eq_true c7
       clear c7
       replace H := Option.bind_eq_some_iff.mp H
       obtain ⟨⟨t872, t873, t874, t875, t876, t879, t882⟩, A80, H⟩ := H
       replace H : (if x4_1 < (x3_1.length : Int) then (laws_toInsS.l0 k1 l0 (x3_1.set (x4_1 : Int).toNat (⟨t872, t873, t874, t875, t876, t879, t882⟩ : S115)) (wrap64 (x4_1 + 1))) else (none)) = some r := H
       have A8 := Aside0.mk A80
       clear A80
       by_cases c9 : x4_1 < (x3_1.length : Int)
       ·rw [if_pos c9] at H
        have c9b0 : decide (x4_1 < (x3_1.length : Int)) = true := decide_eq_true c9
        clear c9
        obtain ⟨y885, hy885⟩ : ∃ y_ : List (S115), y_ = (x3_1.set (x4_1 : Int).toNat (⟨t872, t873, t874, t875, t876, t879, t882⟩ : S115)) := ⟨_, rfl⟩
        replace H : (laws_toInsS.l0 k1 l0 y885 (wrap64 (x4_1 + 1))) = some r := by first | (rw [hy885]; with_reducible exact H) | (have H2_ := (Option.bind_some _ _).symm.trans H; rw [hy885]; with_reducible exact H2_) | (have H2_ := (Option.bind_some _ _).symm.trans H; with_reducible exact H2_) | with_reducible exact H | (rw [hy885]; exact H) | exact H
        have Ny885 := Aside0.mk hy885
        clear hy885
        have H' := Aside0.mk H
        clear H
        have p871 : 0 ≤ (x4_1 : Int) := of_decide_eq_true (by first | (with_reducible assumption) | assumption)
        have q871 : x4_1 < (l0.length : Int) := of_decide_eq_true (by first | (with_reducible assumption) | assumption)
        obtain ⟨ad871, A871_4, c871_4, A871_5, c871_5, A871_6, c871_6, e871, hx871_0, hx871_1, hx871_2, hx871_3, hx871_4, hx871_5, hx871_6, hl871_4, hi871_4, hl871_5, hi871_5, hl871_6, hi871_6⟩ := at_T112 HR0.out x4_1 p871 q871
        cases e871
        replace hx871_0 := (HB.out.cell (World.block_lt_of_cell? w _ hx871_0)).trans hx871_0
        replace hx871_1 := (HB.out.cell (World.block_lt_of_cell? w _ hx871_1)).trans hx871_1
        replace hx871_2 := (HB.out.cell (World.block_lt_of_cell? w _ hx871_2)).trans hx871_2
        replace hx871_3 := (HB.out.cell (World.block_lt_of_cell? w _ hx871_3)).trans hx871_3
        replace hx871_4 := (HB.out.cell (World.block_lt_of_cell? w _ hx871_4)).trans hx871_4
        replace hx871_5 := (HB.out.cell (World.block_lt_of_cell? w _ hx871_5)).trans hx871_5
        replace hx871_6 := (HB.out.cell (World.block_lt_of_cell? w _ hx871_6)).trans hx871_6
        have HR871_4 := Aside0.mk hi871_4
        have HC871_4 := Aside0.mk hl871_4
        clear hi871_4 hl871_4
        have HR871_5 := Aside0.mk hi871_5
        have HC871_5 := Aside0.mk hl871_5
        clear hi871_5 hl871_5
        have HR871_6 := Aside0.mk hi871_6
        have HC871_6 := Aside0.mk hl871_6
        clear hi871_6 hl871_6
        replace p871 := eq_true p871
        replace q871 := eq_true q871
        go_wp2_with (first | ((with_reducible refine gate_callee (f := 85) rfl ?_); refine goesL_ (some 20) rfl rfl Try.func85 (by kernel_rfl) rfl #[.agg #[.int .i64 ((rd_T112 l0 x4_1).f0), .int .i64 ((rd_T112 l0 x4_1).f1), .int .i64 ((rd_T112 l0 x4_1).f2), .int .i64 ((rd_T112 l0 x4_1).f3), .slice A871_4 ((rd_T112 l0 x4_1).f4).length c871_4, .slice A871_5 ((rd_T112 l0 x4_1).f5).length c871_5, .slice A871_6 ((rd_T112 l0 x4_1).f6).length c871_6]] rfl (by (try simp only [List.map_toArray, List.map_cons, List.map_nil]); first | done | rfl | (simp only [List.length_drop, List.length_take]; rfl)) ?_; (with_reducible refine (laws_toIns.calls k1 ((rd_T112 l0 x4_1).f0) ((rd_T112 l0 x4_1).f1) ((rd_T112 l0 x4_1).f2) ((rd_T112 l0 x4_1).f3) _ _ ((rd_T112 l0 x4_1).f4) _ _ ((rd_T112 l0 x4_1).f5) _ _ ((rd_T112 l0 x4_1).f6) t872 t873 t874 t875 t876 t879 t882 _ ?side1 ?side2 ?side3 ?side4 ?side5 ?side6 A8.out).mono ?_); (case side1 => repeat (first | exact (Kd.C_below HR871_4.out HB.out) | (with_reducible refine Kd.C_alloc ?_ _) | (with_reducible refine Kd.C_drewN ?_ _) | (with_reducible refine Kd.C_drew ?_))); (case side2 => exact HC871_4.out); (case side3 => repeat (first | exact (Kd.C_below HR871_5.out HB.out) | (with_reducible refine Kd.C_alloc ?_ _) | (with_reducible refine Kd.C_drewN ?_ _) | (with_reducible refine Kd.C_drew ?_))); (case side4 => exact HC871_5.out); (case side5 => repeat (first | exact (Kd.C_below HR871_6.out HB.out) | (with_reducible refine Kd.C_alloc ?_ _) | (with_reducible refine Kd.C_drewN ?_ _) | (with_reducible refine Kd.C_drew ?_))); (case side6 => exact HC871_6.out); rintro e w11 ⟨v877, v880, v883, rfl, ho0, ho1, ho2, hb⟩; refine ⟨_, rfl, ?_⟩; have n0_ := Aside0.mk (Kd.R_mono (Kd.R_told (Kd.R_told (Kd.R_told (Kd.R_old (by (with_reducible repeat (first | apply Kd.R_alloc | apply Kd.R_drewN | apply Kd.R_drew)); exact HO_3.out) hb) (Kd.R_base ho0)) (Kd.R_base ho1)) (Kd.R_base ho2)) (fun _ h_ => h_.1)); have n1_ := Aside0.mk (Kd.R_lower ho0 (below_size (by repeat (first | (with_reducible first | exact HB.out | apply below_alloc | apply pw_below_drewN | apply below_drew1) | exact HB.out)))); have n2_ := Aside0.mk (Kd.R_lower ho1 (below_size (by repeat (first | (with_reducible first | exact HB.out | apply below_alloc | apply pw_below_drewN | apply below_drew1) | exact HB.out)))); have n3_ := Aside0.mk (Kd.R_lower ho2 (below_size (by repeat (first | (with_reducible first | exact HB.out | apply below_alloc | apply pw_below_drewN | apply below_drew1) | exact HB.out)))); have n4_ := Aside0.mk (below_step (by repeat (first | (with_reducible first | exact HB.out | apply below_alloc | apply pw_below_drewN | apply below_drew1) | exact HB.out)) hb); clear HO_3; clear HB; have HO_3 := n0_; have HO878 := n1_; have HO881 := n2_; have HO884 := n3_; have HB := n4_; clear n0_ n1_ n2_ n3_ n4_; (try clear hb); (try clear hb2); (try clear hk); (try clear hi); (try clear ho0); (try clear ho1); (try clear ho2); have p10 : 0 ≤ (x4_1 : Int) := of_decide_eq_true (by first | (with_reducible assumption) | assumption); have q10 : (x4_1 : Int) < ((x3_1.length : Int) : Int) := of_decide_eq_true (by first | (with_reducible assumption) | assumption); obtain ⟨go10, co10, eo10, gb10, gl10, cl10, HG10⟩ := Kd.R_form HO_3.out (by omega); (first | cases eo10 | (injection eo10 with ea_ en_ ec_; (first | subst ea_ | (injection ea_ with ea_; subst ea_)); subst ec_; clear en_)); have GB10 := Aside0.mk gb10; have GG10 := Aside0.mk HG10; clear gb10 gl10 HG10; obtain ⟨ce10, hcl10, hM10, hcc10, hfr10⟩ := Kd.R_elem HO_3.out z115 (x4_1 : Int) p10 q10; obtain ⟨ve10_4, ve10_5, ve10_6, rfl, ge10_4, ge10_5, ge10_6⟩ := k115_openM hM10; have hx10_0 : w11.cell? ⟨go10, (x4_1 : Int).toNat * 7, none⟩ = some (.int .i64 ((rd_T115 x3_1 x4_1).f0)) := hcc10 0 _ rfl; have hx10_1 : w11.cell? ⟨go10, (x4_1 : Int).toNat * 7 + 1, none⟩ = some (.int .i64 ((rd_T115 x3_1 x4_1).f1)) := hcc10 1 _ rfl; have hx10_2 : w11.cell? ⟨go10, (x4_1 : Int).toNat * 7 + 2, none⟩ = some (.int .i64 ((rd_T115 x3_1 x4_1).f2)) := hcc10 2 _ rfl; have hx10_3 : w11.cell? ⟨go10, (x4_1 : Int).toNat * 7 + 3, none⟩ = some (.int .i64 ((rd_T115 x3_1 x4_1).f3)) := hcc10 3 _ rfl; have hx10_4 : w11.cell? ⟨go10, (x4_1 : Int).toNat * 7 + 4, none⟩ = some (ve10_4) := hcc10 4 _ rfl; have hx10_5 : w11.cell? ⟨go10, (x4_1 : Int).toNat * 7 + 5, none⟩ = some (ve10_5) := hcc10 5 _ rfl; have hx10_6 : w11.cell? ⟨go10, (x4_1 : Int).toNat * 7 + 6, none⟩ = some (ve10_6) := hcc10 6 _ rfl; have hf10_0 : w11.frozen? ⟨go10, (x4_1 : Int).toNat * 7, none⟩ = false := hfr10 0; have hf10_1 : w11.frozen? ⟨go10, (x4_1 : Int).toNat * 7 + 1, none⟩ = false := hfr10 1; have hf10_2 : w11.frozen? ⟨go10, (x4_1 : Int).toNat * 7 + 2, none⟩ = false := hfr10 2; have hf10_3 : w11.frozen? ⟨go10, (x4_1 : Int).toNat * 7 + 3, none⟩ = false := hfr10 3; have hf10_4 : w11.frozen? ⟨go10, (x4_1 : Int).toNat * 7 + 4, none⟩ = false := hfr10 4; have hf10_5 : w11.frozen? ⟨go10, (x4_1 : Int).toNat * 7 + 5, none⟩ = false := hfr10 5; have hf10_6 : w11.frozen? ⟨go10, (x4_1 : Int).toNat * 7 + 6, none⟩ = false := hfr10 6; (try clear hcl10); (try clear hcc10); (try clear hfr10); (try clear hM10); replace p10 := eq_true p10; replace q10 := eq_true q10; have n_ := Aside0.mk (Kd.R_mono (ok' := (fun k_ => some k_ ≠ (v877 : Value).ownBlock ∧ some k_ ≠ (v880 : Value).ownBlock ∧ some k_ ≠ (v883 : Value).ownBlock)) HO_3.out (fun k_ hk => ⟨hk.1.1.2, ⟨hk.1.2, hk.2⟩⟩)); clear HO_3; have HO_3 := n_; clear n_; have HX12 := Aside0.mk (show Kd.R k115 115 w11 w.heap.size (fun _ => True) (.slice (some ⟨go10, 0, none⟩) x3_1.length co10) x3_1 from (by (with_reducible repeat (first | apply Kd.R_alloc | apply Kd.R_drewN | apply Kd.R_drew)); exact Kd.R_mono HO_3.out (fun _ hk => trivial))); obtain ⟨ce12, hcl12, hM12, hcc12, hfr12⟩ := Kd.R_elem HX12.out z115 (x4_1 : Int) (of_decide_eq_true (by first | (with_reducible assumption) | assumption)) (by have h_ : (x4_1 : Int) < ((x3_1.length : Int) : Int) := of_decide_eq_true (by first | (with_reducible assumption) | assumption); first | exact h_ | (have e_ := (Kd.R_reads' HO_3.out).1; omega) | simpa using h_); obtain ⟨ve12_4, ve12_5, ve12_6, rfl, ge12_4, ge12_5, ge12_6⟩ := k115_openM hM12; have HP12 := Kd.R_seg HX12.out (x4_1 : Int) (of_decide_eq_true (by first | (with_reducible assumption) | assumption)) (by have h_ : (x4_1 : Int) < ((x3_1.length : Int) : Int) := of_decide_eq_true (by first | (with_reducible assumption) | assumption); first | exact h_ | (have e_ := (Kd.R_reads' HO_3.out).1; omega) | simpa using h_) (seg := [.int .i64 t872, .int .i64 t873, .int .i64 t874, .int .i64 t875, v877, v880, v883]) (j := 0) hcl12 hcc12 (show 7 ≤ 7 from by decide) (x' := (⟨t872, t873, t874, t875, t876, t879, t882⟩ : S115)) (k115_mkM _ _ _ (⟨t872, t873, t874, t875, t876, t879, t882⟩ : S115) (Kd.R_mono (Kd.R_apart' (HO878.out) (Kd.R_typed HO_3.out) (by decide)) (fun k_ hk => ⟨trivial, fun e_ => (hk.2) (by rw [e_]; rfl)⟩)) (Kd.R_mono (Kd.R_apart' (HO881.out) (Kd.R_typed HO_3.out) (by decide)) (fun k_ hk => ⟨trivial, fun e_ => (hk.2) (by rw [e_]; rfl)⟩)) (Kd.R_mono (Kd.R_apart' (HO884.out) (Kd.R_typed HO_3.out) (by decide)) (fun k_ hk => ⟨trivial, fun e_ => (hk.2) (by rw [e_]; rfl)⟩))) (fun _ hk => hk); have hx12_0 := hcc12 0 _ rfl; (try simp only [show (k115).sz = 7 from rfl, Nat.mul_one, Nat.add_zero] at hx12_0); have hf12_0 := hfr12 0; (try simp only [show (k115).sz = 7 from rfl, Nat.mul_one, Nat.add_zero] at hf12_0); have hx12_1 := hcc12 1 _ rfl; (try simp only [show (k115).sz = 7 from rfl, Nat.mul_one, Nat.add_zero] at hx12_1); have hf12_1 := hfr12 1; (try simp only [show (k115).sz = 7 from rfl, Nat.mul_one, Nat.add_zero] at hf12_1); have hx12_2 := hcc12 2 _ rfl; (try simp only [show (k115).sz = 7 from rfl, Nat.mul_one, Nat.add_zero] at hx12_2); have hf12_2 := hfr12 2; (try simp only [show (k115).sz = 7 from rfl, Nat.mul_one, Nat.add_zero] at hf12_2); have hx12_3 := hcc12 3 _ rfl; (try simp only [show (k115).sz = 7 from rfl, Nat.mul_one, Nat.add_zero] at hx12_3); have hf12_3 := hfr12 3; (try simp only [show (k115).sz = 7 from rfl, Nat.mul_one, Nat.add_zero] at hf12_3); have hx12_4 := hcc12 4 _ rfl; (try simp only [show (k115).sz = 7 from rfl, Nat.mul_one, Nat.add_zero] at hx12_4); have hf12_4 := hfr12 4; (try simp only [show (k115).sz = 7 from rfl, Nat.mul_one, Nat.add_zero] at hf12_4); have hx12_5 := hcc12 5 _ rfl; (try simp only [show (k115).sz = 7 from rfl, Nat.mul_one, Nat.add_zero] at hx12_5); have hf12_5 := hfr12 5; (try simp only [show (k115).sz = 7 from rfl, Nat.mul_one, Nat.add_zero] at hf12_5); have hx12_6 := hcc12 6 _ rfl; (try simp only [show (k115).sz = 7 from rfl, Nat.mul_one, Nat.add_zero] at hx12_6); have hf12_6 := hfr12 6; (try simp only [show (k115).sz = 7 from rfl, Nat.mul_one, Nat.add_zero] at hf12_6); (try clear hcl12); (try clear hcc12); (try clear hfr12); (try clear hM12)) | ((with_reducible refine gate_store (t := 115) (p := 21) rfl ?_); refine store_event (t := 115) (p := 21) (v := ?vo_w13) (w1 := (((((((w11.setCell ⟨go10, (x4_1 : Int).toNat * 7, none⟩ (.int .i64 t872)).setCell ⟨go10, (x4_1 : Int).toNat * 7 + 1, none⟩ (.int .i64 t873)).setCell ⟨go10, (x4_1 : Int).toNat * 7 + 2, none⟩ (.int .i64 t874)).setCell ⟨go10, (x4_1 : Int).toNat * 7 + 3, none⟩ (.int .i64 t875)).setCell ⟨go10, (x4_1 : Int).toNat * 7 + 4, none⟩ (v877)).setCell ⟨go10, (x4_1 : Int).toNat * 7 + 5, none⟩ (v880)).setCell ⟨go10, (x4_1 : Int).toNat * 7 + 6, none⟩ (v883))) ?hg ?ho ?hn ?hr ?_; (case ho => rfl); (case hg => rfl); (case hn => rfl); (case hr => first | (go_simp; done) | (go_simp; rfl) | ((first | (have hq_ := Kd.S_slice HO878.out; obtain ⟨A_, c_, e_⟩ := hq_; subst e_) | (have hq_ := Kd.R_slice HO878.out; obtain ⟨A_, c_, e_⟩ := hq_; subst e_)); (first | (have hq_ := Kd.S_slice HO881.out; obtain ⟨A_, c_, e_⟩ := hq_; subst e_) | (have hq_ := Kd.R_slice HO881.out; obtain ⟨A_, c_, e_⟩ := hq_; subst e_)); (first | (have hq_ := Kd.S_slice HO884.out; obtain ⟨A_, c_, e_⟩ := hq_; subst e_) | (have hq_ := Kd.R_slice HO884.out; obtain ⟨A_, c_, e_⟩ := hq_; subst e_)); first | (go_simp; done) | (go_simp; rfl))); intro w13 hw; have hg : w11.grownBy w13 (some go10) := (by rw [hw]; exact HP12.2); have hp_ : Kd.R k115 115 w13 w.heap.size (fun _ => True) (.slice (some ⟨go10, 0, none⟩) x3_1.length co10) y885 := (by rw [hw, Ny885.out]; exact HP12.1); clear HP12; have n0_ := Aside0.mk (hp_); have n1_ := Aside0.mk ((by rw [hw]; exact below_set (below_set (below_set (below_set (below_set (below_set (below_set (HB.out) GB10.out) GB10.out) GB10.out) GB10.out) GB10.out) GB10.out) GB10.out : Below w.heap.size w w13)); clear HO_3; clear HB; clear HO878; clear HO881; clear HO884; have HO_3 := n0_; have HB := n1_; clear n0_ n1_; clear hg hw hp_))
        go_roundg k1
        case measure => have := HK1.out; omega
        case rel => exact ⟨(y885), (wrap64 (x4_1 + 1)), (by first | rfl | (simp; done) | (simp [*]; done)), H', ⟨by have := HK1.out; omega⟩, ⟨by (with_reducible repeat (first | apply Kd.R_alloc | apply Kd.R_drewN | apply Kd.R_drew)); exact HO_3.out⟩, ⟨by repeat (first | (with_reducible first | exact HB.out | apply below_alloc | apply pw_below_drewN | apply below_drew1) | exact HB.out)⟩⟩
       ·rw [if_neg c9] at H
        exact absurd H (by simp)
      ·rw [if_neg c7] at H
       exact absurd H (by simp)
     ·rw [if_neg c6] at H
      have c6b0 : decide (x4_1 < (l0.length : Int)) = false := decide_eq_false c6
      clear c6
      obtain rfl := Option.some.inj H
      go_wp2
      go_ret
      exact ⟨_, by first | rfl | (simp [errW_none, errW_some] <;> rfl) | (simp [*, errW_none, errW_some] <;> rfl), by (with_reducible repeat (first | apply Kd.R_alloc | apply Kd.R_drewN | apply Kd.R_drew)); exact HO_3.out, by repeat (first | (with_reducible first | exact HB.out | apply below_alloc | apply pw_below_drewN | apply below_drew1) | exact HB.out)⟩
  ·rw [if_neg c3] at H
   exact absurd H (by simp)
 ·rw [if_neg c2] at H
  exact absurd H (by simp)

set_option maxHeartbeats 8000000 in
theorem slices_IndexFunc_impl_Ins.fn (g : Nat) (lb : Array Value) (eg : ∀ args w, (callFunc g args).run Try.prog w = .ok (.enter g args) w) (p : S115 → Bool) (A : Option Addr) (c : Nat) (l : List (S115)) (w : World) (hr : Kd.C k115 w A l.length l)
    (hp : ∀ (w1 : World) (x : S115) (A4 : Option Addr) (c4 : Nat) (A5 : Option Addr) (c5 : Nat) (A6 : Option Addr) (c6 : Nat), x ∈ l → Below w.heap.size w w1 → (Kd.int .i64).C w A4 x.f4.length x.f4 → x.f4.length ≤ c4 → k178.C w A5 x.f5.length x.f5 → x.f5.length ≤ c5 → (Kd.int .i64).C w A6 x.f6.length x.f6 → x.f6.length ≤ c6 → Calls Try.prog g (#[.agg #[.int .i64 x.f0, .int .i64 x.f1, .int .i64 x.f2, .int .i64 x.f3, .slice A4 x.f4.length c4, .slice A5 x.f5.length c5, .slice A6 x.f6.length c6]] ++ lb) w1 fun e w' => e = .returned (.bool (p x)) ∧ Below w1.heap.size w1 w') :
    Calls Try.prog 132 #[.slice A l.length c, .func (.func g) #[] lb] w fun e w' => e = .returned (.int .i64 (idxOf p l)) ∧ Below w.heap.size w w' := by
  have hbig : l.length ≤ 9223372036854775807 := hr.2.1
  have HR := Aside0.mk hr
  have HP := Aside0.mk hp
  have HB := Aside0.mk (Below.refl w.heap.size w)
  have hu := Try.underlying115
  clear hr hp
  go_enter Try.func132, Try.ntmps132
  go_wp2
  go_loopg [5, 8] l.length (fun gg _ s8 wr => ∃ kk : Nat, kk ≤ l.length ∧ l.length - kk ≤ gg ∧ s8 = .int .i64 kk ∧ Aside0 (∀ j (hj : j < l.length), j < kk → p l[j] = false) ∧ Aside0 (Below w.heap.size w wr))
  case atStart => exact ⟨0, Nat.zero_le _, by omega, rfl, ⟨fun j _ hj => absurd hj (Nat.not_lt_zero _)⟩, ⟨by repeat (first | (with_reducible first | exact HB.out | apply below_alloc | apply pw_below_drewN | apply below_drew1) | exact HB.out)⟩⟩
  case round =>
    clear HB
    obtain ⟨kk, hkk, hg, rfl, HA, HB⟩ := hrel
    by_cases hlt : kk < l.length
    · have hltz : (kk : Int) < (l.length : Int) := by omega
      obtain ⟨ad, A4, c4, A5, c5, A6, c6, e, hx0, hx1, hx2, hx3, hx4, hx5, hx6, hl4, hC4, hl5, hC5, hl6, hC6⟩ := at_T115 HR.out (kk : Int) (by omega) hltz
      cases e
      have hge : rd_T115 l (kk : Int) = l[kk] := by unfold rd_T115; rw [Int.toNat_natCast, List.getD_eq_getElem?_getD, List.getElem?_eq_getElem hlt]; rfl
      replace hx0 := (HB.out.cell (World.block_lt_of_cell? w _ hx0)).trans hx0
      replace hx1 := (HB.out.cell (World.block_lt_of_cell? w _ hx1)).trans hx1
      replace hx2 := (HB.out.cell (World.block_lt_of_cell? w _ hx2)).trans hx2
      replace hx3 := (HB.out.cell (World.block_lt_of_cell? w _ hx3)).trans hx3
      replace hx4 := (HB.out.cell (World.block_lt_of_cell? w _ hx4)).trans hx4
      replace hx5 := (HB.out.cell (World.block_lt_of_cell? w _ hx5)).trans hx5
      replace hx6 := (HB.out.cell (World.block_lt_of_cell? w _ hx6)).trans hx6
      have hm : rd_T115 l (kk : Int) ∈ l := by rw [hge]; exact List.getElem_mem hlt
      have HPE := Aside0.mk (show p (rd_T115 l (kk : Int)) = p l[kk] by rw [hge])
      have HL4 := Aside0.mk hl4
      have HC4 := Aside0.mk hC4
      have HL5 := Aside0.mk hl5
      have HC5 := Aside0.mk hC5
      have HL6 := Aside0.mk hl6
      have HC6 := Aside0.mk hC6
      have HM := Aside0.mk hm
      clear hm hge hl4 hC4 hl5 hC5 hl6 hC6
      generalize rd_T115 l (kk : Int) = y at hx0 hx1 hx2 hx3 hx4 hx5 hx6 HL4 HC4 HL5 HC5 HL6 HC6 HPE HM
      simp only [Int.toNat_natCast] at hx0 hx1 hx2 hx3 hx4 hx5 hx6
      have HC := Aside0.mk (fun (w1 : World) (hb1 : Below w.heap.size w w1) => HP.out w1 y A4 c4 A5 c5 A6 c6 HM.out hb1 HC4.out HL4.out HC5.out HL5.out HC6.out HL6.out)
      cases hq : p y with
      | true =>
        have HQ := Aside0.mk (HPE.out.symm.trans hq)
        have HC2 := Aside0.mk (fun (w1 : World) (hb1 : Below w.heap.size w w1) => hq ▸ HC.out w1 hb1)
        clear hq
        go_wp2_with (go_at_fn g; refine (HC2.out _ ?hb1).mono ?_; (case hb1 => repeat (first | (with_reducible first | exact HB.out | apply below_alloc | apply pw_below_drewN | apply below_drew1) | exact HB.out)); rintro e w' ⟨rfl, hb⟩; have n0_ := Aside0.mk (below_step (by repeat (first | (with_reducible first | exact HB.out | apply below_alloc | apply pw_below_drewN | apply below_drew1) | exact HB.out)) hb); clear HB hb; have HB := n0_; clear n0_)
        go_ret
        refine ⟨?_, by repeat (first | (with_reducible first | exact HB.out | apply below_alloc | apply pw_below_drewN | apply below_drew1) | exact HB.out)⟩
        rw [idxOf_hit p l kk hlt (fun j hj => HA.out j (by omega) hj) HQ.out]
        rfl
      | false =>
        have HQ := Aside0.mk (HPE.out.symm.trans hq)
        have HC2 := Aside0.mk (fun (w1 : World) (hb1 : Below w.heap.size w w1) => hq ▸ HC.out w1 hb1)
        clear hq
        go_wp2_with (go_at_fn g; refine (HC2.out _ ?hb1).mono ?_; (case hb1 => repeat (first | (with_reducible first | exact HB.out | apply below_alloc | apply pw_below_drewN | apply below_drew1) | exact HB.out)); rintro e w' ⟨rfl, hb⟩; have n0_ := Aside0.mk (below_step (by repeat (first | (with_reducible first | exact HB.out | apply below_alloc | apply pw_below_drewN | apply below_drew1) | exact HB.out)) hb); clear HB hb; have HB := n0_; clear n0_)
        go_roundg (l.length - (kk + 1))
        case measure => omega
        case rel =>
          refine ⟨kk + 1, by omega, by omega, by go_num, ⟨fun j hj hjk => ?_⟩, ⟨by repeat (first | (with_reducible first | exact HB.out | apply below_alloc | apply pw_below_drewN | apply below_drew1) | exact HB.out)⟩⟩
          by_cases e : j = kk
          · subst e
            exact HQ.out
          · exact HA.out j hj (by omega)
    · have hltz : ¬ (kk : Int) < (l.length : Int) := by omega
      have HMI := Aside0.mk (idxOf_miss p l (fun x hx => by
        obtain ⟨j, hj, rfl⟩ := List.getElem_of_mem hx
        exact HA.out j hj (by omega)))
      go_wp2
      go_ret
      refine ⟨?_, by repeat (first | (with_reducible first | exact HB.out | apply below_alloc | apply pw_below_drewN | apply below_drew1) | exact HB.out)⟩
      rw [HMI.out]
      rfl

set_option maxHeartbeats 8000000 in
theorem slices_ContainsFunc_impl_Ins.fn (g : Nat) (lb : Array Value) (eg : ∀ args w, (callFunc g args).run Try.prog w = .ok (.enter g args) w) (p : S115 → Bool) (A : Option Addr) (c : Nat) (l : List (S115)) (w : World) (hr : Kd.C k115 w A l.length l)
    (hp : ∀ (w1 : World) (x : S115) (A4 : Option Addr) (c4 : Nat) (A5 : Option Addr) (c5 : Nat) (A6 : Option Addr) (c6 : Nat), x ∈ l → Below w.heap.size w w1 → (Kd.int .i64).C w A4 x.f4.length x.f4 → x.f4.length ≤ c4 → k178.C w A5 x.f5.length x.f5 → x.f5.length ≤ c5 → (Kd.int .i64).C w A6 x.f6.length x.f6 → x.f6.length ≤ c6 → Calls Try.prog g (#[.agg #[.int .i64 x.f0, .int .i64 x.f1, .int .i64 x.f2, .int .i64 x.f3, .slice A4 x.f4.length c4, .slice A5 x.f5.length c5, .slice A6 x.f6.length c6]] ++ lb) w1 fun e w' => e = .returned (.bool (p x)) ∧ Below w1.heap.size w1 w') :
    Calls Try.prog 86 #[.slice A l.length c, .func (.func g) #[] lb] w fun e w' => e = .returned (.bool (l.any p)) ∧ Below w.heap.size w w' := by
  have H := slices_IndexFunc_impl_Ins.fn g lb eg p A c l w hr hp
  have HB := Aside0.mk (idxOf_any p l)
  clear hr hp
  generalize idxOf p l = i at H HB
  generalize l.any p = b at HB
  have HH := Aside0.mk H
  clear H
  by_cases h0 : 0 ≤ i
  · obtain rfl : b = true := by rw [← HB.out]; exact h0
    clear HB
    go_enter Try.func86, Try.ntmps86
    go_wp2_with (go_at_call 132; refine HH.out.mono ?_; rintro e w' ⟨rfl, hb⟩; have HB2 := Aside0.mk hb; clear hb)
    go_ret
    exact ⟨by simp [h0], by repeat (first | (with_reducible first | exact HB2.out | apply below_alloc | apply pw_below_drewN | apply below_drew1) | exact HB2.out)⟩
  · obtain rfl : b = false := by
      cases hb : b
      · rfl
      · exact absurd (HB.out.mpr hb) h0
    clear HB
    go_enter Try.func86, Try.ntmps86
    go_wp2_with (go_at_call 132; refine HH.out.mono ?_; rintro e w' ⟨rfl, hb⟩; have HB2 := Aside0.mk hb; clear hb)
    go_ret
    exact ⟨by simp [h0], by repeat (first | (with_reducible first | exact HB2.out | apply below_alloc | apply pw_below_drewN | apply below_drew1) | exact HB2.out)⟩


end Go.Proofs.Ytkpeihdlmjdejaa.P
